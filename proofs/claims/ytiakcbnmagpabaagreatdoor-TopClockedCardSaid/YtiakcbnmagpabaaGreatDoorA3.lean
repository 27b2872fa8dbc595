/- Names only grow, in regions and codes and calls; two rules of control. -/
import Derived.Test.YtiakcbnmagpabaaGreatDoorA2
import Derived.Scope
namespace Go.Am

/-- the next name only grows, the floor stays -/
def Grow2 (h h' : AH) : Prop := h.next ≤ h'.next ∧ h'.floor = h.floor ∧ Kept h h'
theorem Grow2.refl (h : AH) : Grow2 h h := ⟨Nat.le_refl _, rfl, fun _ _ _ => rfl, id⟩
theorem Grow2.trans {a b c : AH} (x : Grow2 a b) (y : Grow2 b c) : Grow2 a c :=
  ⟨Nat.le_trans x.1 y.1, y.2.1.trans x.2.1, fun id hf hn => (y.2.2.1 id (x.2.1 ▸ hf) (Nat.lt_of_lt_of_le hn x.1)).trans (x.2.2.1 id hf hn), fun hb => y.2.2.2 (x.2.2.2 hb)⟩
theorem Grow.two {a b : AH} (x : Grow a b) : Grow2 a b := ⟨x.1, x.2.1, x.2.2.2⟩
/-- the marks apart -/
theorem Grow2.marks {a b : AH} {l m : List Nat} (x : Grow2 { a with marks := l } b) : Grow2 a { b with marks := m } := x

section
variable {g g' : RT} {h h' : AH} {v : AV}

theorem get_only (h : AH) (ids : List Nat) (i : Nat) : (h.only ids).get i = if i ∈ ids then h.get i else none := by
  have := get_patch h.tr ids .nil i
  rw [HT.get_nil] at this
  exact this
theorem get_merge (h h' : AH) (ids : List Nat) (i : Nat) : (h.merge h' ids).get i = if i ∈ ids ∨ (h.next ≤ i ∧ i < h'.next) then h'.get i else h.get i := by
  have := get_patch h'.tr (ids ++ (List.range (h'.next - h.next)).map (h.next + ·)) h.tr i
  refine this.trans ?_
  have e : i ∈ ids ++ (List.range (h'.next - h.next)).map (h.next + ·) ↔ i ∈ ids ∨ (h.next ≤ i ∧ i < h'.next) := by
    rw [List.mem_append, List.mem_map]
    constructor
    · rintro (q | ⟨j, q, rfl⟩)
      · exact .inl q
      · rw [List.mem_range] at q
        exact .inr (by omega)
    · rintro (q | q)
      · exact .inl q
      · exact .inr ⟨i - h.next, by rw [List.mem_range]; omega, by omega⟩
  simp only [e]
  rfl

theorem merge_grow {ids : List Nat} {h1 : AH} (q : Grow (h.only ids) h1) : Grow h (h.merge h1 ids) := by
  refine ⟨q.1, rfl, rfl, fun id hf hn => ?_, fun hb id hid => ?_⟩
  · rw [get_merge]
    by_cases hi : id ∈ ids
    · rw [if_pos (.inl hi), q.2.2.2.1 id hf hn, get_only, if_pos hi]
    · rw [if_neg (by rintro (r | r); exact hi r; omega)]
  · have hid' : h1.next ≤ id := hid
    have hb1 : h1.bd := q.2.2.2.2 fun i hi => by
      rw [get_only]
      split
      · exact hb i hi
      · rfl
    rw [get_merge]
    split
    · exact hb1 id hid'
    · exact hb id (Nat.le_trans q.1 hid')

theorem evMulti_grow {Y : YH} {H : CallH} (hy : YGrow Y) (hh : HGrow H) : ∀ {l : List (Nat × AOper)} {s s' : St} {acc acc' : List (List Rng × List Rng)}, evMulti Y H l s acc = some (s', acc') → Grow s.2 s'.2
  | [], s, s', acc, acc', he => by
    simp only [evMulti, Option.some.injEq, Prod.mk.injEq] at he
    rw [← he.1]
    exact .refl _
  | (k, o) :: l, (g, h), s', acc, acc', he => by
    unfold evMulti at he
    split at he
    · split at he
      · obtain ⟨⟨v, h1⟩, e1, e2⟩ := opt_some.1 he
        have q := evMulti_grow hy hh e2
        exact q
      · split at he
        · obtain ⟨⟨v, h1⟩, e1, e2⟩ := opt_some.1 he
          exact (evOper_grow hy hh e1).trans (evMulti_grow (s := (_, h1)) hy hh e2)
        · split at he
          · split at he
            · cases he
            · obtain ⟨⟨v, h1⟩, e1, e2⟩ := opt_some.1 he
              have q := evOper_grow hy hh e1
              exact Grow.trans (b := { h1 with floor := h.floor }) ⟨q.1, rfl, q.2.2.1, fun id _ hn => q.2.2.2.1 id hn hn, q.2.2.2.2⟩ (evMulti_grow (s := (_, { h1 with floor := h.floor })) hy hh e2)
          · obtain ⟨⟨v, h1⟩, e1, e2⟩ := opt_some.1 he
            have q := evOper_grow hy hh e1
            exact Grow.trans (b := h.merge h1 (usesOf g o.op)) (merge_grow q) (evMulti_grow (s := (_, h.merge h1 (usesOf g o.op))) hy hh e2)
    · have q := evMulti_grow hy hh he
      exact q

theorem iter_grow {f : St → Option (AX × St)} (hf : ∀ s x s', f s = some (x, s') → Grow2 s.2 s'.2) : ∀ {k : Nat} {s s' : St} {x : AX}, iter f k s = some (x, s') → Grow2 s.2 s'.2
  | 0, s, s', x, he => by cases he
  | k + 1, s, s', x, he => by
    unfold iter at he
    split at he
    · rename_i s1 e1
      exact (hf _ _ _ e1).trans (iter_grow hf he)
    · exact hf _ _ _ he

theorem endRound_put {l : Nat} {x : AX} (he : endRound l x h = some (v, h')) : ∃ o, h.put l (some o) = some h' := by
  unfold endRound at he
  split at he
  · split at he <;> (obtain ⟨_, e1, e2⟩ := opt_some.1 he; injection e2 with e2; injection e2 with _ e2; subst e2; exact ⟨_, e1⟩)
  · cases he

theorem evCode_grow {H : CallH} (hh : HGrow H) (lf : Nat) : ∀ (c : AC) (rd : Bool) {Y : YH}, YGrow Y → ∀ {s s' : St} {x : AX}, evCode H lf rd Y c s = some (x, s') → Grow2 s.2 s'.2
  | .skip, rd, Y, hy, s, s', x, he => by
    simp only [evCode, Option.some.injEq, Prod.mk.injEq] at he
    rw [← he.2]; exact .refl _
  | .ops l, rd, Y, hy, s, s', x, he => by
    simp only [evCode] at he
    obtain ⟨s1, e1, e2⟩ := opt_some.1 he
    injection e2 with e2; injection e2 with _ e2; subst e2
    exact (evOps_grow hy hh e1).two
  | .multi l ps, rd, Y, hy, s, s', x, he => by
    simp only [evCode] at he
    obtain ⟨⟨s1, acc⟩, e1, e2⟩ := opt_some.1 he
    dsimp only at e2
    split at e2
    · injection e2 with e2; injection e2 with _ e2; subst e2
      exact (evMulti_grow hy hh e1).two
    · cases e2
  | .seq a b, rd, Y, hy, s, s', x, he => by
    simp only [evCode] at he
    split at he
    · rename_i s1 e1
      exact (evCode_grow hh lf a rd hy e1).trans (evCode_grow hh lf b rd hy he)
    · exact evCode_grow hh lf a rd hy he
  | .cond c a b, rd, Y, hy, s, s', x, he => by
    simp only [evCode] at he
    split at he
    · exact evCode_grow hh lf a rd hy he
    · exact evCode_grow hh lf b rd hy he
    · cases he
  | .block id c, rd, Y, hy, s, s', x, he => by
    simp only [evCode] at he
    split at he
    · rename_i i s1 e1
      have q := evCode_grow hh lf c rd hy e1
      split at he <;> (injection he with he; injection he with _ he; subst he; exact q)
    · exact evCode_grow hh lf c rd hy he
  | .loop c, rd, Y, hy, s, s', x, he => by
    simp only [evCode] at he
    exact iter_grow (fun s x s' e => evCode_grow hh lf c rd hy e) he
  | .rfun f ps as body, rd, Y, hy, (g, h), s', x, he => by
    simp only [evCode] at he
    split at he
    · cases he
    · split at he
      · rename_i k first captured hf
        obtain ⟨⟨u, h3⟩, e1, e2⟩ := opt_some.1 he
        have q : Grow ((h.new (.dfr false)).2.new (.loop .ready none)).2 h3 := by
          refine hh _ ?_ _ _ _ _ _ e1
          intro id fy args k1 v k2 hid hfy
          dsimp only at hid
          split at hid
          · injection hid with hid
            subst hid
            dsimp only at hfy
            split at hfy
            · rename_i hlo
              obtain ⟨g1, _, hfy⟩ := opt_some.1 hfy
              split at hfy
              · rename_i g2 k3 e3
                have r1 := evCode_grow hh lf as true hy e3
                split at hfy
                rotate_left
                · cases hfy
                obtain ⟨k4, e4, hfy⟩ := opt_some.1 hfy
                have r2 := put_next e4
                obtain ⟨⟨x', ⟨g5, k5⟩⟩, e5, hfy⟩ := opt_some.1 hfy
                have r3 := evCode_grow hh lf body true hy e5
                dsimp only at hfy
                split at hfy
                · obtain ⟨⟨v6, k6⟩, e6, hfy⟩ := opt_some.1 hfy
                  obtain ⟨o6, e7⟩ := endRound_put e6
                  have r4 := put_next e7
                  injection hfy with hfy
                  injection hfy with _ hfy
                  subst hfy
                  dsimp only at r1 r2 r3 r4
                  have n1 : k1.next ≤ k3.next := r1.1
                  have n2 : k4.next = k3.next := r2.1
                  have n3 : k4.next ≤ k5.next := r3.1
                  have n4 : k6.next = k5.next := r4.1
                  have f1 : k3.floor = k1.floor := r1.2.1
                  have f2 : k4.floor = k3.floor := r2.2.1
                  have f3 : k5.floor = k4.floor := r3.2.1
                  have f4 : k6.floor = k5.floor := r4.2.1
                  refine ⟨(by show k1.next ≤ k6.next; omega), (by show k6.floor = k1.floor; omega), rfl, fun id hf hn => ?_, fun hb => ?_⟩
                  · exact (r4.2.2.2.1 id (by omega)).trans ((r3.2.2.1 id (by omega) (by omega)).trans ((r2.2.2.2.1 id (by omega)).trans (r1.2.2.1 id hf hn)))
                  · have hl := hb.lt hlo
                    exact r4.2.2.2.2 (by omega) (r3.2.2.2 (r2.2.2.2.2 (by omega) (r1.2.2.2 hb)))
                · cases hfy
              · cases hfy
            · cases hfy
          · exact hy _ _ _ _ _ _ hid hfy
        have q0 : Grow2 h h3 := ((Grow.new h _).two.trans (Grow.new _ _).two).trans q.two
        dsimp only at e2
        split at e2
        · rename_i hlo
          split at e2
          · cases e2
          · obtain ⟨h4, e3, e4⟩ := opt_some.1 e2
            have q1 : Grow2 h { h4 with marks := h.next :: h4.marks } := q0.trans (put_grow e3 hlo).two
            split at e4 <;> (injection e4 with e4; injection e4 with _ e4; subst e4; exact q1)
        · cases e2
      · cases he
  | .exit id, rd, Y, hy, s, s', x, he => by
    simp only [evCode, Option.some.injEq, Prod.mk.injEq] at he
    rw [← he.2]; exact .refl _
  | .ret, rd, Y, hy, s, s', x, he => by
    simp only [evCode, Option.some.injEq, Prod.mk.injEq] at he
    rw [← he.2]; exact .refl _
  | .fail n, rd, Y, hy, s, s', x, he => by cases he
end

theorem takeMarks_grow : ∀ {l : List Nat} {h h' : AH}, takeMarks l h = some h' → Grow h h'
  | [], h, h', he => by injection he with he; subst he; exact .refl _
  | d :: l, h, h', he => by
    unfold takeMarks at he
    split at he
    · rename_i ho
      obtain ⟨h1, e1, e2⟩ := opt_some.1 he
      exact (put_grow e1 ho).trans (takeMarks_grow e2)
    · cases he

theorem evFn_grow (C : FuncId → Option AF) (lf : Nat) : ∀ n, HGrow (evFn C lf n)
  | 0 => fun Y hy f args h v h' he => by cases he
  | n + 1 => fun Y hy f args h v h' he => by
    unfold evFn at he
    obtain ⟨fn, _, he⟩ := opt_some.1 he
    split at he
    · cases he
    · split at he
      · rename_i g1 h1 e1
        have q := evCode_grow (evFn_grow C lf n) lf _ _ hy e1
        obtain ⟨h2, e2, he⟩ := opt_some.1 he
        obtain ⟨vs, e3, he⟩ := opt_some.1 he
        injection he with he; injection he with _ he; subst he
        have r := (takeMarks_grow e2).two
        have t := q.trans r
        exact ⟨t.1, t.2.1, rfl, t.2.2⟩
      · rename_i g1 h1 e1
        have q := evCode_grow (evFn_grow C lf n) lf _ _ hy e1
        obtain ⟨h2, e2, he⟩ := opt_some.1 he
        obtain ⟨vs, e3, he⟩ := opt_some.1 he
        injection he with he; injection he with _ he; subst he
        have r := (takeMarks_grow e2).two
        have t := q.trans r
        exact ⟨t.1, t.2.1, rfl, t.2.2⟩
      · cases he

theorem least {p : Nat → Prop} (h : ∃ k, p k) : ∃ k, p k ∧ ∀ j, p j → k ≤ j := by
  obtain ⟨k, hk⟩ := h
  induction k using Nat.strongRecOn with
  | _ k ih =>
    by_cases hq : ∃ j, j < k ∧ p j
    · obtain ⟨j, h1, h2⟩ := hq
      exact ih j h1 h2
    · exact ⟨k, hk, fun j hj => Nat.le_of_not_lt fun hlt => hq ⟨j, hlt, hj⟩⟩

section
variable {F : Fence} {m : Nat} {P : Program} {Q : Exit → Act → World → Prop} {a : Act} {w : World}

open Classical in
/-- a loop, by the count of rounds still to come -/
theorem wpIn_loop_count {c : Code} (I : Nat → Act → World → Prop) {k : Nat} (h₀ : I k a w)
    (round : ∀ k a w, I k a w → c.wpIn F m P (Exit.then (fun a' w' => ∃ j, j < k ∧ I j a' w') Q) a w) : (Code.loop c).wpIn F m P Q a w := by
  let μ : Act → World → Nat := fun a w => if h : ∃ k, I k a w then Classical.choose (least h) else 0
  have hμ : ∀ a w, (∃ k, I k a w) → I (μ a w) a w ∧ ∀ j, I j a w → μ a w ≤ j := fun a w h => by
    have e : μ a w = Classical.choose (least h) := dif_pos h
    rw [e]
    exact Classical.choose_spec (least h)
  refine wpIn_loop (fun a w => ∃ k, I k a w) μ ⟨k, h₀⟩ fun a w hI => ?_
  refine wpIn_mono (round _ a w (hμ a w hI).1) fun e a' w' hq => ?_
  cases e with
  | normal =>
    obtain ⟨j, h1, h2⟩ := hq
    exact ⟨⟨j, h2⟩, Nat.lt_of_le_of_lt ((hμ a' w' ⟨j, h2⟩).2 j h2) h1⟩
  | _ => exact hq
end
end Go.Am

/- A step in a part of the heap is a step of the whole heap. -/
namespace Go.Am

/-- s: a part of the heap k, with the names from s.next on free; l: what may have changed -/
structure Part (ρ : Env) (s k : AH) (l : List Nat) (s' : AH) : Prop where
  sub : ∀ id o, s.get id = some o → k.get id = some o
  floor : k.floor ≤ s.floor
  high : ∀ id, id ∈ l → k.floor ≤ id → s.floor ≤ id
  bound : s'.next ≤ k.next
  free : ∀ id, s.next ≤ id → id < s'.next → k.get id = none
  rest : ∀ id, id ∉ l → s'.get id = s.get id
  mine : ∀ id, id ∈ l → k.get id = s.get id

theorem Part.trans {ρ ρ' : Env} {s s' k : AH} {l : List Nat} {w w' : World} (p : Part ρ s k l s') (hr : HRel ρ k w) (t : Trans ρ s w ρ' s' w') :
    HRel ρ' { k with tr := patch k.tr s'.tr l } w' := by
  have hget : ∀ i, ({ k with tr := patch k.tr s'.tr l } : AH).get i = if i ∈ l then s'.get i else k.get i := fun i => get_patch _ _ _ _
  -- blocks that s owns are k's
  have hblk : ∀ b, s.owns ρ b → ∀ j oj rj, k.get j = some oj → ρ j = some rj → rj.block = b → s.get j = some oj := by
    rintro b ⟨i, o, r, h1, h2, h3, rfl⟩ j oj rj h4 h5 h6
    by_cases e : i = j
    · subst e
      rw [p.sub _ _ h1] at h4
      rw [h1, h4]
    · exact absurd h6.symm (hr.inj i j o oj r rj (p.sub _ _ h1) h4 e h3 h5 ⟨Nat.le_trans p.floor h2.1, h2.2⟩)
  have hold : ∀ j oj, k.get j = some oj → ∃ r, ρ j = some r ∧ ρ' j = some r ∧ ObjRel ρ oj r w := fun j oj h => by
    obtain ⟨r, h1, h2⟩ := hr.obj j oj h
    exact ⟨r, h1, t.le _ _ h1, h2⟩
  -- an object of s' and one of k that is not in l lie apart
  have hmix : ∀ i j oi oj ri rj, i ∈ l → j ∉ l → s'.get i = some oi → k.get j = some oj → ρ' i = some ri → ρ' j = some rj →
      (k.wr i oi ∨ k.wr j oj) → ri.block ≠ rj.block := by
    intro i j oi oj ri rj hi hj h1 h2 h3 h4 hw hb
    have hne : i ≠ j := fun e => hj (e ▸ hi)
    obtain ⟨r, q1, q2, q3⟩ := hold j oj h2
    rw [h4] at q2
    injection q2 with q2
    subst q2
    by_cases hsi : s.get i = none
    · -- a new object
      have hnew : s.next ≤ i := Nat.le_of_not_lt fun hlt => by rw [t.dom i hlt hsi] at h1; cases h1
      rcases t.own' i oi ri h1 (.inr hnew) h3 with hx | hx
      · have := q3.lt
        omega
      · have hsj := hblk _ hx j oj rj h2 q1 hb.symm
        have hsj' : s'.get j = some oj := by rw [p.rest j hj]; exact hsj
        obtain ⟨io, oo, ro, g1, g2, g3, g4⟩ := hx
        have e : io = j := Classical.byContradiction fun e =>
          hr.inj io j oo oj ro rj (p.sub _ _ g1) h2 e g3 q1 ⟨Nat.le_trans p.floor g2.1, g2.2⟩ (g4.trans hb)
        subst e
        rw [g1] at hsj
        injection hsj with hsj
        subst hsj
        exact t.rel.inj io i oo oi rj ri hsj' h1 (Ne.symm hne) h4 h3 ⟨t.floor ▸ g2.1, g2.2⟩ hb.symm
    · -- an object that was there
      cases hso : s.get i with
      | none => exact hsi hso
      | some o0 =>
        obtain ⟨r0, g1, g2, g3⟩ := hold i o0 (p.sub _ _ hso)
        rw [h3] at g2
        injection g2 with g2
        subst g2
        rcases hw with hw | hw
        · have hw0 : s'.wr i oi := ⟨t.floor ▸ p.high i hi hw.1, hw.2⟩
          rcases t.own' i oi ri h1 (.inl hw0) h3 with hx | hx
          · have := q3.lt
            omega
          · have hsj := hblk _ hx j oj rj h2 q1 hb.symm
            have hsj' : s'.get j = some oj := by rw [p.rest j hj]; exact hsj
            exact t.rel.inj i j oi oj ri rj h1 hsj' hne h3 h4 hw0 hb
        · exact hr.inj j i oj o0 rj ri h2 (p.sub _ _ hso) (Ne.symm hne) q1 g1 hw hb.symm
  refine ⟨fun id o ho => ?_, fun i j oi oj ri rj hi hj hne hri hrj hwi => ?_, fun id o ho => ?_⟩
  · rw [hget] at ho
    by_cases hl : id ∈ l
    · rw [if_pos hl] at ho
      exact t.rel.obj id o ho
    · rw [if_neg hl] at ho
      obtain ⟨r, q1, q2, q3⟩ := hold id o ho
      refine ⟨r, q2, ?_⟩
      by_cases hx : s.owns ρ r.block
      · have hs := hblk _ hx id o r ho q1 rfl
        obtain ⟨r', g1, g2⟩ := t.rel.obj id o (by rw [p.rest id hl]; exact hs)
        rw [q2] at g1
        injection g1 with g1
        subst g1
        exact g2
      · exact (q3.mono t.le).congr (t.keep _ q3.lt hx)
  · rw [hget] at hi hj
    by_cases li : i ∈ l
    · rw [if_pos li] at hi
      by_cases lj : j ∈ l
      · rw [if_pos lj] at hj
        exact t.rel.inj i j oi oj ri rj hi hj hne hri hrj ⟨t.floor ▸ p.high i li hwi.1, hwi.2⟩
      · rw [if_neg lj] at hj
        exact hmix i j oi oj ri rj li lj hi hj hri hrj (.inl hwi)
    · rw [if_neg li] at hi
      by_cases lj : j ∈ l
      · rw [if_pos lj] at hj
        exact fun e => hmix j i oj oi rj ri lj li hj hi hrj hri (.inr hwi) e.symm
      · rw [if_neg lj] at hj
        obtain ⟨r1, g1, g2, _⟩ := hold i oi hi
        obtain ⟨r2, g3, g4, _⟩ := hold j oj hj
        rw [hri] at g2
        rw [hrj] at g4
        injection g2 with g2
        injection g4 with g4
        subst g2 g4
        exact hr.inj i j oi oj ri rj hi hj hne g1 g3 hwi
  · rw [hget] at ho
    by_cases hl : id ∈ l
    · rw [if_pos hl] at ho
      exact Nat.lt_of_lt_of_le (t.rel.bound id o ho) p.bound
    · rw [if_neg hl] at ho
      exact hr.bound id o ho
end Go.Am

/- Records of operations, and the order in which they come. -/
namespace Go.Am

structure Rec where
  rd : List Nat
  dst : Option Nat
  v : AV
  g : RT
  part : HT
  after : HT
  ids : List Nat
  lo : Nat
  hi : Nat

abbrev S2 := RT × HT
def Rec.ok (r : Rec) (s : S2) : Prop :=
  (∀ x, x ∈ r.rd → s.1.geti x = r.g.geti x) ∧ (∀ id o, r.part.get id = some o → s.2.get id = some o) ∧ (∀ id, id ∈ r.ids → s.2.get id = r.part.get id)
def Rec.app (r : Rec) (s : S2) : S2 := (setDst s.1 r.dst r.v, patch s.2 r.after r.ids)

structure Indep (a b : Rec) : Prop where
  r1 : ∀ d, a.dst = some d → d ∉ b.rd ∧ b.dst ≠ some d
  r2 : ∀ d, b.dst = some d → d ∉ a.rd
  h1 : ∀ id, id ∈ a.ids → b.part.get id = none ∧ id ∉ b.ids
  h2 : ∀ id, id ∈ b.ids → a.part.get id = none

def Eqv (s t : S2) : Prop := (∀ i, s.1.geti i = t.1.geti i) ∧ ∀ id, s.2.get id = t.2.get id
theorem Eqv.refl (s : S2) : Eqv s s := ⟨fun _ => rfl, fun _ => rfl⟩
theorem Eqv.trans {a b c : S2} (x : Eqv a b) (y : Eqv b c) : Eqv a c := ⟨fun i => (x.1 i).trans (y.1 i), fun i => (x.2 i).trans (y.2 i)⟩

theorem geti_setDst (g : RT) (d : Option Nat) (v : AV) (i : Nat) : (setDst g d v).geti i = if d = some i then v else g.geti i := by
  cases d with
  | none => rfl
  | some d =>
    simp only [setDst, Option.some.injEq]
    by_cases h : d = i
    · subst h
      rw [if_pos rfl]
      exact RT.geti_seti_same _ _ _
    · rw [if_neg h]
      exact RT.geti_seti_other _ _ (Ne.symm h)

theorem Rec.ok_congr {r : Rec} {s t : S2} (e : Eqv s t) (h : r.ok s) : r.ok t :=
  ⟨fun x hx => (e.1 x).symm.trans (h.1 x hx), fun id o ho => (e.2 id).symm.trans (h.2.1 id o ho), fun id hid => (e.2 id).symm.trans (h.2.2 id hid)⟩
theorem Rec.app_congr (r : Rec) {s t : S2} (e : Eqv s t) : Eqv (r.app s) (r.app t) := by
  refine ⟨fun i => ?_, fun id => ?_⟩
  · simp only [Rec.app, geti_setDst, e.1 i]
  · simp only [Rec.app, get_patch, e.2 id]

theorem Rec.swap {a b : Rec} {s : S2} (hi : Indep a b) (ha : a.ok s) (hb : b.ok (a.app s)) : b.ok s ∧ a.ok (b.app s) ∧ Eqv (b.app (a.app s)) (a.app (b.app s)) := by
  refine ⟨⟨fun x hx => ?_, fun id o ho => ?_, fun id hid => ?_⟩, ⟨fun x hx => ?_, fun id o ho => ?_, fun id hid => ?_⟩, fun i => ?_, fun id => ?_⟩
  · have := hb.1 x hx
    simp only [Rec.app, geti_setDst] at this
    rwa [if_neg (fun e => (hi.r1 x e).1 hx)] at this
  · have := hb.2.1 id o ho
    simp only [Rec.app, get_patch] at this
    rwa [if_neg (fun e => by rw [(hi.h1 id e).1] at ho; cases ho)] at this
  · have := hb.2.2 id hid
    simp only [Rec.app, get_patch] at this
    rwa [if_neg (fun e => (hi.h1 id e).2 hid)] at this
  · simp only [Rec.app, geti_setDst]
    rw [if_neg (fun e => hi.r2 x e hx)]
    exact ha.1 x hx
  · simp only [Rec.app, get_patch]
    rw [if_neg (fun e => by rw [hi.h2 id e] at ho; cases ho)]
    exact ha.2.1 id o ho
  · simp only [Rec.app, get_patch]
    rw [if_neg (fun e => (hi.h1 id hid).2 e)]
    exact ha.2.2 id hid
  · simp only [Rec.app, geti_setDst]
    by_cases h1 : a.dst = some i
    · rw [if_neg (hi.r1 i h1).2, if_pos h1, if_pos h1]
    · simp [h1]
  · simp only [Rec.app, get_patch]
    by_cases h1 : id ∈ a.ids
    · rw [if_neg (hi.h1 id h1).2, if_pos h1, if_pos h1]
    · simp [h1]

def Chain : List Rec → S2 → S2 → Prop
  | [], s, s' => Eqv s s'
  | r :: l, s, s' => r.ok s ∧ Chain l (r.app s) s'

theorem Chain.congr : ∀ {l : List Rec} {s t s' : S2}, Eqv s t → Chain l s s' → Chain l t s'
  | [], s, t, s', e, h => ⟨fun i => (e.1 i).symm.trans (h.1 i), fun i => (e.2 i).symm.trans (h.2 i)⟩
  | r :: l, s, t, s', e, h => ⟨Rec.ok_congr e h.1, Chain.congr (r.app_congr e) h.2⟩

/-- one that depends on none before it may come first -/
theorem Chain.front : ∀ {l1 l2 : List Rec} {b : Rec} {s s' : S2}, (∀ a, a ∈ l1 → Indep a b) → Chain (l1 ++ b :: l2) s s' → Chain (b :: (l1 ++ l2)) s s'
  | [], l2, b, s, s', _, h => h
  | a :: l1, l2, b, s, s', hi, h => by
    have q := Chain.front (fun c hc => hi c (List.mem_cons_of_mem _ hc)) h.2
    obtain ⟨e1, e2, e3⟩ := Rec.swap (hi a (List.mem_cons_self ..)) h.1 q.1
    exact ⟨e1, e2, Chain.congr e3 q.2⟩
end Go.Am

/- Which operations come before which. -/
namespace Go.Am

def maskOf (acc : Array Nat) (o : Oper) : Nat := o.after.foldl (fun s e => if Region.binds .any e then s ||| 2 ^ e.on ||| acc.getD e.on 0 else s) 0

theorem before_eq (ops : Array Oper) : Region.before ops = ops.toList.foldl (fun acc o => acc.push (maskOf acc o)) #[] := by
  unfold Region.before
  rw [← Array.foldl_toList]
  rfl

theorem masks_old : ∀ (l : List Oper) (acc : Array Nat) (i : Nat), i < acc.size → (l.foldl (fun acc o => acc.push (maskOf acc o)) acc)[i]? = acc[i]?
  | [], _, _, _ => rfl
  | o :: l, acc, i, h => by
    rw [List.foldl_cons, masks_old l _ i (by simp; omega), Array.getElem?_push, if_neg (by omega)]

theorem masks_at : ∀ (l : List Oper) (acc : Array Nat) (k : Nat) (o : Oper), l[k]? = some o →
    ∃ acc' : Array Nat, acc'.size = acc.size + k ∧ (∀ m, m < acc.size + k → (l.foldl (fun acc o => acc.push (maskOf acc o)) acc)[m]? = acc'[m]?) ∧
      (l.foldl (fun acc o => acc.push (maskOf acc o)) acc)[acc.size + k]? = some (maskOf acc' o)
  | [], _, _, _, h => by simp at h
  | p :: l, acc, 0, o, h => by
    simp only [List.getElem?_cons_zero, Option.some.injEq] at h
    subst h
    refine ⟨acc, rfl, fun m hm => ?_, ?_⟩
    · exact masks_old (p :: l) acc m hm
    · rw [List.foldl_cons, Nat.add_zero, masks_old l _ _ (by simp)]
      simp
  | p :: l, acc, k + 1, o, h => by
    simp only [List.getElem?_cons_succ] at h
    obtain ⟨acc', h1, h2, h3⟩ := masks_at l (acc.push (maskOf acc p)) k o h
    simp only [Array.size_push] at h1 h2 h3
    refine ⟨acc', by omega, fun m hm => ?_, ?_⟩
    · rw [List.foldl_cons]; exact h2 m (by omega)
    · rw [List.foldl_cons, show acc.size + (k + 1) = acc.size + 1 + k by omega]; exact h3

theorem fold_bit (acc : Array Nat) (j : Nat) : ∀ (l : List Edge) (s : Nat), (l.foldl (fun s e => if Region.binds .any e then s ||| 2 ^ e.on ||| acc.getD e.on 0 else s) s).testBit j = true →
    s.testBit j = true ∨ ∃ e, e ∈ l ∧ Region.binds .any e = true ∧ (j = e.on ∨ (acc.getD e.on 0).testBit j = true)
  | [], s, h => .inl h
  | e :: l, s, h => by
    rw [List.foldl_cons] at h
    rcases fold_bit acc j l _ h with h | ⟨e', h1, h2⟩
    · split at h
      · rename_i hb
        rw [Nat.testBit_or, Nat.testBit_or, Bool.or_eq_true, Bool.or_eq_true] at h
        rcases h with (h | h) | h
        · exact .inl h
        · refine .inr ⟨e, List.mem_cons_self .., hb, .inl ?_⟩
          rw [Nat.testBit_two_pow] at h
          simpa [eq_comm] using h
        · exact .inr ⟨e, List.mem_cons_self .., hb, .inr h⟩
      · exact .inl h
    · exact .inr ⟨e', List.mem_cons_of_mem _ h1, h2⟩

/-- before one that is ready comes nothing that is not listed -/
theorem before_listed (ops : Array Oper) (D : Nat → Prop) (hD : ∀ i o, D i → ops[i]? = some o → ∀ e, e ∈ o.after → Region.binds .any e = true → D e.on) :
    ∀ (i : Nat) (o : Oper), ops[i]? = some o → (∀ e, e ∈ o.after → Region.binds .any e = true → D e.on) → ∀ j, ((Region.before ops).getD i 0).testBit j = true → D j := by
  intro i
  induction i using Nat.strongRecOn with
  | _ i ih =>
    intro o ho hall j hj
    rw [before_eq] at hj
    obtain ⟨acc', h1, h2, h3⟩ := masks_at ops.toList #[] i o (by simpa using ho)
    simp only [List.size_toArray, List.length_nil, Nat.zero_add] at h1 h2 h3
    rw [Array.getD_eq_getD_getElem?, h3] at hj
    simp only [Option.getD_some, maskOf] at hj
    rw [← Array.foldl_toList] at hj
    rcases fold_bit acc' j _ _ hj with h | ⟨e, e1, e2, e3⟩
    · simp at h
    · have he : e ∈ o.after := by simpa using e1
      have hde := hall e he e2
      rcases e3 with rfl | e3
      · exact hde
      · have hlt : e.on < i := by
          rcases Nat.lt_or_ge e.on i with h | h
          · exact h
          · rw [Array.getD_eq_getD_getElem?, Array.getElem?_eq_none (by omega)] at e3
            simp at e3
        have hb : ((Region.before ops).getD e.on 0).testBit j = true := by
          rw [before_eq, Array.getD_eq_getD_getElem?, h2 _ hlt, ← Array.getD_eq_getD_getElem?]
          exact e3
        cases hq : ops[e.on]? with
        | none =>
          have : i < ops.size := (Array.getElem?_eq_some_iff.1 ho).1
          rw [Array.getElem?_eq_none_iff] at hq
          omega
        | some q => exact ih e.on hlt q hq (fun e' h h' => hD e.on q hde hq e' h h') j hb
end Go.Am

/- A scope that nobody jumps in. -/
namespace Go.Am
section
variable {F : Fence} {n : Nat} {P : Program} {b : Frame} {a : Act} {k : List Item} {cs : List Frame} {w : World} {Q : Exit → Act → World → Prop}

theorem stepR_scope {c : Code} : step P (lone (b.atR a (.code (.scope c) :: k)) cs w) = .next (lone (b.atR a (.code c :: .inScope c :: k)) cs w) :=
  step_lone_go (by simp [stepG, stepG.exec, Frame.atR])
theorem stepR_inScope {c : Code} : step P (lone (b.atR a (.inScope c :: k)) cs w) = .next (lone (b.atR a k) cs w) :=
  step_lone_go (by simp [stepG, stepG.exec, Frame.atR])

theorem wpIn_scope {c : Code} (h : c.wpIn F n P (Exit.noGoto Q) a w) : (Code.scope c).wpIn F n P Q a w := by
  intro b k cs hro hb hr
  have h0 : (lone (b.atR a (.code (.scope c) :: k)) cs w).fenced P F := fenced_calm hb hr rfl
  obtain ⟨e, a₁, w₁, hq, harr⟩ := h b (.inScope c :: k) cs hro hb hr
  cases e with
  | normal => exact ⟨.normal, a₁, w₁, hq, .head h0 stepR_scope (StepsIn.trans harr (.one (fenced_calm hb hr rfl) stepR_inScope))⟩
  | exit id =>
    have hx : exitTo id (.inScope c :: k) = exitTo id k := by simp [exitTo]
    exact ⟨.exit id, a₁, w₁, hq, fun k' hk => .head h0 stepR_scope (harr.1 k' (by rw [hx]; exact hk)),
      fun hr' hk => let ⟨k₁, h1, h2⟩ := harr.2 hr' (by rw [hx]; exact hk); ⟨k₁, h1, .head h0 stepR_scope h2⟩⟩
  | goto l => exact hq.elim
  | ret => exact ⟨_, a₁, w₁, hq, .of_steps (.one h0 stepR_scope) harr⟩
  | panic ch => exact ⟨_, a₁, w₁, hq, .of_steps (.one h0 stepR_scope) harr⟩
  | outgrown => exact ⟨_, a₁, w₁, hq, .of_steps (.one h0 stepR_scope) harr⟩
end
end Go.Am

/- The registers that an operation looks at. -/
namespace Go.Am

def Agree (l : List Nat) (g g' : RT) : Prop := ∀ i, i ∈ l → g.geti i = g'.geti i
theorem Agree.left {a b : List Nat} {g g' : RT} (h : Agree (a ++ b) g g') : Agree a g g' := fun i hi => h i (List.mem_append_left _ hi)
theorem Agree.right {a b : List Nat} {g g' : RT} (h : Agree (a ++ b) g g') : Agree b g g' := fun i hi => h i (List.mem_append_right _ hi)
theorem Opd.ev_agree {g g' : RT} {x : Opd} (h : Agree x.regs g g') : x.ev g = x.ev g' := by
  cases x with
  | r i => exact h i (List.mem_singleton.2 rfl)
  | c v => rfl
theorem optRegs_agree {g g' : RT} {x : Option Opd} (h : Agree (optRegs x) g g') : x.map (·.ev g) = x.map (·.ev g') := by
  cases x with
  | none => rfl
  | some x => exact congrArg some (Opd.ev_agree h)
theorem listRegs_agree {g g' : RT} : ∀ {l : List Opd}, Agree (listRegs l) g g' → l.map (·.ev g) = l.map (·.ev g')
  | [], _ => rfl
  | x :: l, h => by
    have h : Agree (x.regs ++ listRegs l) g g' := h
    rw [List.map_cons, List.map_cons, Opd.ev_agree h.left, listRegs_agree h.right]
theorem partRegs_agree {g g' : RT} : ∀ {l : List (Nat × Nat × Opd)}, Agree (partRegs l) g g' → (l.map fun (a, b, x) => (a, b, x.ev g)) = l.map fun (a, b, x) => (a, b, x.ev g')
  | [], _ => rfl
  | (a, b, x) :: l, h => by
    have h : Agree (x.regs ++ partRegs l) g g' := h
    rw [List.map_cons, List.map_cons, partRegs_agree h.right]
    dsimp only
    rw [Opd.ev_agree h.left]
theorem maxs_agree {g g' : RT} {m : Bool} : ∀ {l : List Opd} {v : AV}, Agree (listRegs l) g g' → maxs m g l v = maxs m g' l v
  | [], _, _ => rfl
  | x :: l, v, h => by
    have h : Agree (x.regs ++ listRegs l) g g' := h
    simp only [maxs, Opd.ev_agree h.left]
    cases two m v (x.ev g') with
    | none => rfl
    | some u => exact maxs_agree h.right

/-- an operation looks at its registers alone -/
theorem evOp_agree {g g' : RT} {o : AOp} (h : Agree o.regs g g') (k : AH) : evOp o g k = evOp o g' k := by
  cases o <;> simp only [AOp.regs] at h <;> simp only [evOp]
  all_goals first
    | rw [Opd.ev_agree h]
    | rw [Opd.ev_agree h.left, Opd.ev_agree h.right]
    | rw [Opd.ev_agree h.left.left, Opd.ev_agree h.left.right, Opd.ev_agree h.right]
    | rw [Opd.ev_agree h.left.left.left, optRegs_agree h.left.left.right, optRegs_agree h.left.right, optRegs_agree h.right]
    | rw [Opd.ev_agree h.left.left, optRegs_agree h.left.right, optRegs_agree h.right]
    | rw [partRegs_agree h]
    | rw [listRegs_agree h.left, listRegs_agree h.right]
    | rw [Opd.ev_agree h.left, maxs_agree h.right]
    | rfl
    | skip

theorem evOper_agree {Y : YH} {H : CallH} {g g' : RT} {o : AOp} (h : Agree o.regs g g') (k : AH) : evOper Y H o g k = evOper Y H o g' k := by
  cases o
  case call f l => simp only [evOper]; rw [listRegs_agree h]
  case pcall f l => simp only [evOper]; rw [listRegs_agree h]
  case callv f l =>
    have h : Agree (f.regs ++ listRegs l) g g' := h
    simp only [evOper]
    rw [Opd.ev_agree h.left, listRegs_agree h.right]
  all_goals exact evOp_agree h k
end Go.Am

/- What an operation changes. -/
namespace Go.Am

/-- only objects of l, and new ones, are others -/
def Fr (l : List Nat) (h h' : AH) : Prop := ∀ i, i ∉ l → ¬ (h.next ≤ i ∧ i < h'.next) → h'.get i = h.get i
section
variable {l : List Nat} {g : RT} {h h' : AH} {v : AV}
theorem Fr.refl (l : List Nat) (h : AH) : Fr l h h := fun _ _ _ => rfl
theorem Fr.more {l' : List Nat} (x : Fr l h h') (hl : ∀ i, i ∈ l → i ∈ l') : Fr l' h h' := fun i hi hn => x i (fun q => hi (hl i q)) hn
theorem Fr.new (l : List Nat) (h : AH) (o : AO) : Fr l h (h.new o).2 := fun i _ hn => by
  have e : (h.new o).2.get i = if i = h.next then some o else h.get i := HT.get_set _ _ _ _
  have e2 : (h.new o).2.next = h.next + 1 := rfl
  rw [e, if_neg (by omega)]
theorem Fr.put {id : Nat} {o : Option AO} (e : h.put id o = some h') (hid : id ∈ l) : Fr l h h' := fun i hi _ => by
  obtain ⟨_, rfl⟩ := put_some e
  have e : ({ h with tr := h.tr.set id o } : AH).get i = if i = id then o else h.get i := HT.get_set _ _ _ _
  have hne : i ≠ id := fun q => hi (by rw [q]; exact hid)
  rw [e, if_neg hne]
theorem Fr.write {id off : Nat} {vs : List AV} (e : h.write id off vs = some h') (hid : id ∈ l) : Fr l h h' := by
  unfold AH.write at e
  split at e
  · injection e with e; subst e; exact .refl _ _
  · split at e
    · split at e
      · cases e
      · split at e
        · exact Fr.put e hid
        · cases e
    · cases e
theorem Fr.putNew {id : Nat} {o : Option AO} {h1 : AH} (e : h.put id o = some h1) (hid : id ∈ l) (o' : AO) : Fr l h (h1.new o').2 := fun i hi hn => by
  have q := put_next e
  have e2 : (h1.new o').2.next = h1.next + 1 := rfl
  rw [Fr.new l h1 o' i hi (by omega), Fr.put e hid i hi (by omega)]

theorem appendV_frame {e b : Nat} {s : AV} {n : Nat} {new : List AV} (he : appendV e b s n new h = some (v, h')) (hl : ∀ i, i ∈ idOf s → i ∈ l) : Fr l h h' := by
  unfold appendV at he
  split at he
  · split at he
    · injection he with he; injection he with _ he; subst he; exact .refl _ _
    · split at he
      · cases he
      · injection he with he; injection he with _ he; subst he; exact .new _ _ _
  · have hm := hl _ (List.mem_singleton.2 rfl)
    split at he
    · obtain ⟨_, e1, e2⟩ := opt_some.1 he
      injection e2 with e2; injection e2 with _ e2; subst e2
      exact .write e1 hm
    · split at he
      · cases he
      · obtain ⟨_, e1, e2⟩ := opt_some.1 he
        injection e2 with e2; injection e2 with _ e2; subst e2
        exact .new _ _ _
  · have hm := hl _ (List.mem_singleton.2 rfl)
    split at he
    · split at he
      · injection he with he; injection he with _ he; subst he; exact .refl _ _
      · cases he
    · split at he
      · split at he
        · cases he
        · split at he
          · obtain ⟨_, e1, e2⟩ := opt_some.1 he
            injection e2 with e2; injection e2 with _ e2; subst e2
            exact .write e1 hm
          · obtain ⟨_, e1, e2⟩ := opt_some.1 he
            obtain ⟨_, e3, e4⟩ := opt_some.1 e2
            injection e4 with e4; injection e4 with _ e4; subst e4
            exact Fr.putNew e3 hm _
      · cases he
  · cases he

theorem sliceSlV_frame {e : Nat} {ph : Bool} {x : AV} {lo hi mx : Option AV} (he : sliceSlV e ph x lo hi mx h = some (v, h')) : Fr l h h' := by
  unfold sliceSlV at he
  split at he
  · obtain ⟨_, _, he⟩ := opt_some.1 he
    obtain ⟨_, _, he⟩ := opt_some.1 he
    obtain ⟨_, _, he⟩ := opt_some.1 he
    injection he with he; injection he with _ he; subst he
    exact .refl _ _
  · obtain ⟨_, _, he⟩ := opt_some.1 he
    obtain ⟨_, _, he⟩ := opt_some.1 he
    obtain ⟨_, _, he⟩ := opt_some.1 he
    injection he with he; injection he with _ he; subst he
    exact .refl _ _
  · split at he
    · obtain ⟨_, _, he⟩ := opt_some.1 he
      obtain ⟨_, _, he⟩ := opt_some.1 he
      obtain ⟨_, _, he⟩ := opt_some.1 he
      injection he with he; injection he with _ he; subst he
      exact .refl _ _
    · obtain ⟨_, _, he⟩ := opt_some.1 he
      obtain ⟨_, _, he⟩ := opt_some.1 he
      split at he
      · injection he with he; injection he with _ he; subst he
        exact .refl _ _
      · split at he
        · injection he with he; injection he with _ he; subst he
          exact .refl _ _
        · split at he
          · injection he with he; injection he with _ he; subst he
            exact fun _ _ _ => rfl
          · cases he
  · cases he

/-- of the old objects only those are others whose names it uses -/
theorem evOp_frame {o : AOp} (he : evOp o g h = some (v, h')) : Fr (usesOf g o) h h' ∧ (heapUse o ≤ 2 → Fr [] h h') := by
  by_cases hu : heapUse o ≤ 1
  · rw [evOp_reads hu he]; exact ⟨.refl _ _, fun _ => .refl _ _⟩
  · cases o
    case sameSl x =>
      refine ⟨?_, fun q => by simp [heapUse] at q⟩
      simp only [evOp] at he
      split at he
      · rename_i hx
        split at he
        · split at he
          · cases he
          · obtain ⟨_, e1, e2⟩ := opt_some.1 he
            injection e2 with e2; injection e2 with _ e2; subst e2
            exact .put e1 (by simp only [usesOf, hx, idOf]; exact List.mem_singleton.2 rfl)
        · cases he
      · cases he
    case bytesOf x =>
      simp only [evOp] at he
      split at he
      · split at he
        · injection he with he; injection he with _ he; subst he; exact ⟨.new _ _ _, fun _ => .new _ _ _⟩
        · cases he
      · cases he
    case store n x y =>
      refine ⟨?_, fun q => by simp [heapUse] at q⟩
      simp only [evOp] at he
      split at he
      · rename_i hx
        split at he
        · obtain ⟨_, e1, e2⟩ := opt_some.1 he
          injection e2 with e2; injection e2 with _ e2; subst e2
          exact .write e1 (by simp only [usesOf, hx, idOf]; exact List.mem_singleton.2 rfl)
        · cases he
      · cases he
    case sliceSl => exact ⟨sliceSlV_frame he, fun _ => sliceSlV_frame he⟩
    case buildSlice e len z ps =>
      simp only [evOp] at he
      obtain ⟨_, _, he⟩ := opt_some.1 he
      split at he
      · injection he with he; injection he with _ he; subst he; exact ⟨.new _ _ _, fun _ => .new _ _ _⟩
      · cases he
    case box n x =>
      simp only [evOp] at he
      split at he
      · injection he with he; injection he with _ he; subst he; exact ⟨.new _ _ _, fun _ => .new _ _ _⟩
      · cases he
    case alloc z =>
      simp only [evOp] at he
      injection he with he; injection he with _ he; subst he; exact ⟨.new _ _ _, fun _ => .new _ _ _⟩
    case makeSlice e b z l c =>
      simp only [evOp] at he
      split at he
      · split at he
        · injection he with he; injection he with _ he; subst he; exact ⟨.new _ _ _, fun _ => .new _ _ _⟩
        · cases he
      · cases he
    case makeMap =>
      simp only [evOp] at he
      injection he with he; injection he with _ he; subst he; exact ⟨.new _ _ _, fun _ => .new _ _ _⟩
    case mapUpdate ts agg m k x =>
      refine ⟨?_, fun q => by simp [heapUse] at q⟩
      simp only [evOp] at he
      split at he
      · rename_i hx
        split at he
        · split at he
          · obtain ⟨r, _, he⟩ := opt_some.1 he
            split at he
            · obtain ⟨_, e1, e2⟩ := opt_some.1 he
              injection e2 with e2; injection e2 with _ e2; subst e2
              exact .put e1 (by simp only [usesOf, hx, idOf]; exact List.mem_singleton.2 rfl)
            · obtain ⟨_, e1, e2⟩ := opt_some.1 he
              injection e2 with e2; injection e2 with _ e2; subst e2
              exact .put e1 (by simp only [usesOf, hx, idOf]; exact List.mem_singleton.2 rfl)
          · cases he
        · cases he
      · cases he
    case append e b x y =>
      refine ⟨?_, fun q => by simp [heapUse] at q⟩
      simp only [evOp] at he
      obtain ⟨_, _, he⟩ := opt_some.1 he
      obtain ⟨_, _, he⟩ := opt_some.1 he
      exact appendV_frame he fun i hi => List.mem_append_left _ hi
    case appendZ e b z x y =>
      refine ⟨?_, fun q => by simp [heapUse] at q⟩
      simp only [evOp] at he
      split at he
      · split at he
        · exact appendV_frame he fun i hi => hi
        · cases he
      · cases he
    case copy e x y =>
      refine ⟨?_, fun q => by simp [heapUse] at q⟩
      simp only [evOp] at he
      split at he
      · obtain ⟨_, _, he⟩ := opt_some.1 he
        injection he with he; injection he with _ he; subst he; exact .refl _ _
      · rename_i hx
        obtain ⟨_, _, he⟩ := opt_some.1 he
        obtain ⟨_, _, he⟩ := opt_some.1 he
        obtain ⟨_, e1, e2⟩ := opt_some.1 he
        injection e2 with e2; injection e2 with _ e2; subst e2
        exact .write e1 (by simp only [usesOf, hx]; exact List.mem_append_left _ (List.mem_singleton.2 rfl))
      · cases he
    case call => cases he
    case callv => cases he
    all_goals first
      | (exact absurd (Nat.zero_le _) hu)
      | (exact absurd (Nat.le_refl 1) hu)
      | (simp [heapUse] at hu; done)
      | skip
    case len k x => cases k <;> simp [heapUse] at hu

/-- what uses no heap: a call of numbers alone among them -/
theorem evOper_pure {Y : YH} {H : CallH} {o : AOp} (hu : heapUse o = 0) (he : evOper Y H o g h = some (v, h')) (k : AH) : h' = h ∧ evOper Y H o g k = some (v, k) := by
  by_cases hn : noCall o = true
  · rw [evOper_noCall hn] at he ⊢
    exact evOp_pure hu he k
  · cases o <;> first
      | exact absurd rfl hn
      | (simp [heapUse] at hu; done)
      | skip
    case pcall f l =>
      simp only [evOper] at he ⊢
      split at he
      · rename_i hf
        obtain ⟨⟨u, h1⟩, e1, e2⟩ := opt_some.1 he
        dsimp only at e2
        split at e2
        · rename_i hu'
          injection e2 with e2
          injection e2 with e2 e3
          subst e2 e3
          refine ⟨rfl, ?_⟩
          rw [if_pos hf, e1]
          simp only [opt, hu', if_true]
        · cases e2
      · cases he
theorem evOper_reads {Y : YH} {H : CallH} {o : AOp} (hu : heapUse o ≤ 1) (he : evOper Y H o g h = some (v, h')) : h' = h := by
  by_cases h0 : heapUse o = 0
  · exact (evOper_pure h0 he h).1
  · by_cases hn : noCall o = true
    · rw [evOper_noCall hn] at he
      exact evOp_reads hu he
    · cases o <;> first
        | exact absurd rfl hn
        | (simp [heapUse] at hu; done)
        | exact absurd rfl h0
end
end Go.Am

/- The records of a region's operations, made in the order of the text. -/
namespace Go.Am

/-- the record of an operation -/
structure RecOf (Y : YH) (H : CallH) (fl : Nat) (o : AOper) (r : Rec) : Prop where
  dst : r.dst = o.dst
  rd : r.rd = o.rd
  run : (wants r.g o.guard = false ∧ r.v = undef ∧ r.ids = []) ∨
    (wants r.g o.guard = true ∧ ∃ s s' : AH, s.tr = r.part ∧ s'.tr = r.after ∧ s.next = r.lo ∧ s'.next = r.hi ∧ fl ≤ s.floor ∧ evOper Y H o.op r.g s = some (r.v, s') ∧ s.bd ∧
      (∀ id, id ∈ r.ids → fl ≤ id → s.floor ≤ id) ∧ (∀ id, id ∉ r.ids → s'.get id = s.get id) ∧ ∀ id, r.lo ≤ id → id < r.hi → id ∈ r.ids)

def inR (l : List Rng) (id : Nat) : Prop := ∃ x, x ∈ l ∧ x.1 ≤ id ∧ id < x.2

/-- what it looks at, and what it changes -/
structure Foot (k use : Nat) (e : List Rng × List Rng) (r : Rec) : Prop where
  none : use = 0 → (∀ id, id ∉ r.ids) ∧ ∀ id, r.part.get id = .none
  read : use ≤ 1 → ∀ id, id ∉ r.ids
  u : k ≠ 5 → ∀ id o, r.part.get id = some o → inR e.1 id
  t : k ≠ 5 → ∀ id, id ∈ r.ids → inR e.2 id

inductive Recs (Y : YH) (H : CallH) (fl : Nat) : Nat → List (Nat × AOper) → List (List Rng × List Rng) → List Rec → Nat → Prop
  | nil (n : Nat) : Recs Y H fl n [] [] [] n
  | cons {n n' k : Nat} {o : AOper} {e : List Rng × List Rng} {r : Rec} {l : List (Nat × AOper)} {E : List (List Rng × List Rng)} {R : List Rec} :
      RecOf Y H fl o r → Foot k (heapUse o.op) e r → n ≤ r.lo → r.lo ≤ r.hi → Recs Y H fl r.hi l E R n' → Recs Y H fl n ((k, o) :: l) (e :: E) (r :: R) n'

theorem Recs.le {Y : YH} {H : CallH} {fl n n' : Nat} {l : List (Nat × AOper)} {E : List (List Rng × List Rng)} {R : List Rec} (h : Recs Y H fl n l E R n') : n ≤ n' := by
  induction h with
  | nil => exact Nat.le_refl _
  | cons _ _ h1 h2 _ ih => omega

theorem Recs.get {Y : YH} {H : CallH} {fl n n' : Nat} {l : List (Nat × AOper)} {E : List (List Rng × List Rng)} {R : List Rec} (h : Recs Y H fl n l E R n') :
    R.length = l.length ∧ ∀ (i : Nat) (r : Rec), R[i]? = some r → ∃ k o e, l[i]? = some (k, o) ∧ E[i]? = some e ∧ RecOf Y H fl o r ∧ Foot k (heapUse o.op) e r ∧ n ≤ r.lo ∧ r.lo ≤ r.hi ∧ r.hi ≤ n' := by
  induction h with
  | nil => exact ⟨rfl, fun i r h => by simp at h⟩
  | @cons n n' k o e r l E R h1 h2 h3 h4 h5 ih =>
    refine ⟨by simp [ih.1], fun i r' hr => ?_⟩
    cases i with
    | zero =>
      simp only [List.getElem?_cons_zero, Option.some.injEq] at hr
      subst hr
      exact ⟨k, o, e, rfl, rfl, h1, h2, h3, h4, h5.le⟩
    | succ i =>
      simp only [List.getElem?_cons_succ] at hr
      obtain ⟨k', o', e', q1, q2, q3, q4, q5, q6, q7⟩ := ih.2 i r' hr
      exact ⟨k', o', e', by simpa using q1, by simpa using q2, q3, q4, by omega, q6, q7⟩

theorem Recs.apart {Y : YH} {H : CallH} {fl n n' : Nat} {l : List (Nat × AOper)} {E : List (List Rng × List Rng)} {R : List Rec} (h : Recs Y H fl n l E R n') :
    ∀ (i j : Nat) (r r' : Rec), i < j → R[i]? = some r → R[j]? = some r' → r.hi ≤ r'.lo := by
  induction h with
  | nil => exact fun i j r r' _ h => by simp at h
  | @cons n n' k o e r l E R h1 h2 h3 h4 h5 ih =>
    intro i j a b hij ha hb
    obtain ⟨j, rfl⟩ : ∃ m, j = m + 1 := ⟨j - 1, by omega⟩
    simp only [List.getElem?_cons_succ] at hb
    cases i with
    | zero =>
      simp only [List.getElem?_cons_zero, Option.some.injEq] at ha
      subst ha
      obtain ⟨_, _, _, _, _, _, _, q, _⟩ := h5.get.2 j b hb
      exact q
    | succ i =>
      simp only [List.getElem?_cons_succ] at ha
      exact ih i j a b (by omega) ha hb

section
variable {Y : YH} {H : CallH}

theorem mem_range_from {lo hi id : Nat} : id ∈ (List.range (hi - lo)).map (lo + ·) ↔ lo ≤ id ∧ id < hi := by
  rw [List.mem_map]
  constructor
  · rintro ⟨j, q, rfl⟩
    rw [List.mem_range] at q
    omega
  · intro q
    exact ⟨id - lo, by rw [List.mem_range]; omega, by omega⟩
theorem inR_one {l : List Nat} {id : Nat} (h : id ∈ l) : inR (l.map one) id := ⟨one id, List.mem_map.2 ⟨id, h, rfl⟩, Nat.le_refl _, Nat.lt_succ_self _⟩
theorem inR_right {a b : List Rng} {id : Nat} (h : inR b id) : inR (a ++ b) id := let ⟨x, h1, h2⟩ := h; ⟨x, List.mem_append_right _ h1, h2⟩
theorem inR_left {a b : List Rng} {id : Nat} (h : inR a id) : inR (a ++ b) id := let ⟨x, h1, h2⟩ := h; ⟨x, List.mem_append_left _ h1, h2⟩
theorem inR_rng {lo hi id : Nat} (h1 : lo ≤ id) (h2 : id < hi) : inR [(lo, hi)] id := ⟨_, List.mem_singleton.2 rfl, h1, h2⟩

theorem agree_self {rd : List Nat} (g : RT) : ∀ x, x ∈ rd → g.geti x = g.geti x := fun _ _ => rfl

/-- an operation that is not wanted -/
theorem rec_skip {fl k : Nat} {o : AOper} {g : RT} {h : AH} (hw : wants g o.guard ≠ true) :
    ∃ r : Rec, RecOf Y H fl o r ∧ Foot k (heapUse o.op) ([], []) r ∧ r.lo = h.next ∧ r.hi = h.next ∧ r.ok (g, h.tr) ∧ Eqv (r.app (g, h.tr)) (setDst g o.dst undef, h.tr) := by
  refine ⟨{ rd := o.rd, dst := o.dst, v := undef, g := g, part := .nil, after := .nil, ids := [], lo := h.next, hi := h.next }, ⟨rfl, rfl, .inl ⟨by simpa using hw, rfl, rfl⟩⟩, ⟨fun _ => ⟨fun id q => (List.not_mem_nil q).elim, fun id => HT.get_nil _⟩, fun _ id q => (List.not_mem_nil q).elim, fun _ id o e => ?_, fun _ id q => (List.not_mem_nil q).elim⟩, rfl, rfl, ⟨agree_self g, fun id o e => ?_, fun id q => (List.not_mem_nil q).elim⟩, fun _ => rfl, fun _ => rfl⟩
  · rw [HT.get_nil] at e; cases e
  · rw [HT.get_nil] at e; cases e

/-- one that uses no heap -/
theorem rec_none {k : Nat} {o : AOper} {g : RT} {h h' : AH} {v : AV} (hw : wants g o.guard = true) (hu : heapUse o.op = 0) (he : evOper Y H o.op g h = some (v, h')) :
    ∃ r : Rec, RecOf Y H h.floor o r ∧ Foot k (heapUse o.op) ([], []) r ∧ r.lo = h.next ∧ r.hi = h.next ∧ r.ok (g, h.tr) ∧ Eqv (r.app (g, h.tr)) (setDst g o.dst v, h.tr) := by
  refine ⟨{ rd := o.rd, dst := o.dst, v := v, g := g, part := .nil, after := .nil, ids := [], lo := h.next, hi := h.next },
    ⟨rfl, rfl, .inr ⟨hw, { h with tr := .nil }, { h with tr := .nil }, rfl, rfl, rfl, rfl, Nat.le_refl _, (evOper_pure hu he _).2, fun id _ => HT.get_nil _, fun id q => (List.not_mem_nil q).elim, fun _ _ => rfl, fun id q1 q2 => absurd q1 (Nat.not_le.2 q2)⟩⟩,
    ⟨fun _ => ⟨fun id q => (List.not_mem_nil q).elim, fun id => HT.get_nil _⟩, fun _ id q => (List.not_mem_nil q).elim, fun _ id o e => ?_, fun _ id q => (List.not_mem_nil q).elim⟩, rfl, rfl, ⟨agree_self g, fun id o e => ?_, fun id q => (List.not_mem_nil q).elim⟩, fun _ => rfl, fun _ => rfl⟩
  · rw [HT.get_nil] at e; cases e
  · rw [HT.get_nil] at e; cases e

/-- one that is in its order to all that use the heap -/
theorem rec_whole (hy : YGrow Y) (hh : HGrow H) {o : AOper} {g : RT} {h h' : AH} {v : AV} (hb : h.bd) (hw : wants g o.guard = true) (hu : heapUse o.op ≠ 0) (he : evOper Y H o.op g h = some (v, h')) :
    ∃ r : Rec, RecOf Y H h.floor o r ∧ Foot 5 (heapUse o.op) ([], []) r ∧ r.lo = h.next ∧ r.hi = h'.next ∧ r.ok (g, h.tr) ∧ Eqv (r.app (g, h.tr)) (setDst g o.dst v, h'.tr) := by
  have q := evOper_grow hy hh he
  by_cases h1 : heapUse o.op ≤ 1
  · have e := evOper_reads h1 he
    subst e
    refine ⟨{ rd := o.rd, dst := o.dst, v := v, g := g, part := h'.tr, after := h'.tr, ids := [], lo := h'.next, hi := h'.next },
      ⟨rfl, rfl, .inr ⟨hw, h', h', rfl, rfl, rfl, rfl, Nat.le_refl _, he, hb, fun id q => (List.not_mem_nil q).elim, fun _ _ => rfl, fun id q1 q2 => absurd q1 (Nat.not_le.2 q2)⟩⟩,
      ⟨fun e => absurd e hu, fun _ id q => (List.not_mem_nil q).elim, fun e => absurd rfl e, fun e => absurd rfl e⟩, rfl, rfl, ⟨agree_self g, fun id o e => e, fun id q => (List.not_mem_nil q).elim⟩, fun _ => rfl, fun _ => rfl⟩
  · have hmem : ∀ id, id ∈ List.range h'.next ↔ id < h'.next := fun id => List.mem_range
    have hout : ∀ id, id ∉ List.range h'.next → h'.get id = h.get id := fun id hid => by
      rw [hmem] at hid
      rw [q.2.2.2.2 hb id (by omega), hb id (Nat.le_trans q.1 (by omega))]
    refine ⟨{ rd := o.rd, dst := o.dst, v := v, g := g, part := h.tr, after := h'.tr, ids := List.range h'.next, lo := h.next, hi := h'.next },
      ⟨rfl, rfl, .inr ⟨hw, h, h', rfl, rfl, rfl, rfl, Nat.le_refl _, he, hb, fun id _ q => q, hout, fun id _ q => (hmem id).2 q⟩⟩,
      ⟨fun e => absurd e hu, fun e => absurd e h1, fun e => absurd rfl e, fun e => absurd rfl e⟩, rfl, rfl, ⟨agree_self g, fun id o e => e, fun id _ => rfl⟩, fun _ => rfl, fun id => ?_⟩
    show (patch h.tr h'.tr (List.range h'.next)).get id = h'.tr.get id
    rw [get_patch]
    split
    · rfl
    · rename_i hid; exact (hout id hid).symm

/-- a call, which writes nothing that was there -/
theorem rec_call (hy : YGrow Y) (hh : HGrow H) {o : AOper} {g : RT} {h h' : AH} {v : AV} (hb : h.bd) (hw : wants g o.guard = true) (hu : heapUse o.op = 4) (hfl : h.floor ≤ h.next)
    (he : evOper Y H o.op g { h with floor := h.next } = some (v, h')) :
    ∃ r : Rec, RecOf Y H h.floor o r ∧ Foot 4 (heapUse o.op) ([(0, h.next)], [(h.next, h'.next)]) r ∧ r.lo = h.next ∧ r.hi = h'.next ∧ r.ok (g, h.tr) ∧ Eqv (r.app (g, h.tr)) (setDst g o.dst v, h'.tr) := by
  have q := evOper_grow hy hh he
  have q1 : h.next ≤ h'.next := q.1
  have hmem : ∀ id, id ∈ (List.range (h'.next - h.next)).map (h.next + ·) ↔ h.next ≤ id ∧ id < h'.next := fun id => mem_range_from
  have hout : ∀ id, id ∉ (List.range (h'.next - h.next)).map (h.next + ·) → h'.get id = h.get id := fun id hid => by
    rw [hmem] at hid
    by_cases hn : id < h.next
    · exact q.2.2.2.1 id hn hn
    · rw [q.2.2.2.2 hb id (by omega), hb id (by omega)]
  refine ⟨{ rd := o.rd, dst := o.dst, v := v, g := g, part := h.tr, after := h'.tr, ids := (List.range (h'.next - h.next)).map (h.next + ·), lo := h.next, hi := h'.next },
    ⟨rfl, rfl, .inr ⟨hw, { h with floor := h.next }, h', rfl, rfl, rfl, rfl, hfl, he, hb, fun id hid _ => ((hmem id).1 hid).1, hout, fun id a b => (hmem id).2 ⟨a, b⟩⟩⟩,
    ⟨fun e => by omega, fun e => by omega, fun _ id o e => inR_rng (Nat.zero_le _) (hb.lt e), fun _ id hid => inR_rng ((hmem id).1 hid).1 ((hmem id).1 hid).2⟩, rfl, rfl, ⟨agree_self g, fun id o e => e, fun id _ => rfl⟩, fun _ => rfl, fun id => ?_⟩
  show (patch h.tr h'.tr _).get id = h'.tr.get id
  rw [get_patch]
  split
  · rfl
  · rename_i hid; exact (hout id hid).symm

/-- one that reads, makes or changes objects whose names it has -/
theorem rec_part (hy : YGrow Y) (hh : HGrow H) {k : Nat} {o : AOper} {g : RT} {h h' : AH} {v : AV} (hb : h.bd) (hw : wants g o.guard = true) (hu : heapUse o.op = k) (h0 : k ≠ 0) (h4 : k ≤ 3)
    (he : evOper Y H o.op g (h.only (usesOf g o.op)) = some (v, h')) :
    ∃ r : Rec, RecOf Y H h.floor o r ∧ Foot k (heapUse o.op) ((usesOf g o.op).map one, (if k = 3 then (usesOf g o.op).map one else []) ++ [(h.next, h'.next)]) r ∧
      r.lo = h.next ∧ r.hi = h'.next ∧ r.ok (g, h.tr) ∧ Eqv (r.app (g, h.tr)) (setDst g o.dst v, (h.merge h' (usesOf g o.op)).tr) := by
  generalize hids : usesOf g o.op = ids at he ⊢
  have q := evOper_grow hy hh he
  have q1 : h.next ≤ h'.next := q.1
  have hnc : noCall o.op = true := by
    cases hop : o.op <;> first
      | rfl
      | (rw [hop] at hu; simp only [heapUse] at hu; omega)
  rw [evOper_noCall hnc] at he
  have hsb : (h.only ids).bd := fun i hi => by
    rw [get_only]
    split
    · exact hb i hi
    · rfl
  have hb' : h'.bd := q.2.2.2.2 hsb
  have hmem : ∀ id, id ∈ (List.range (h'.next - h.next)).map (h.next + ·) ↔ h.next ≤ id ∧ id < h'.next := fun id => mem_range_from
  let l : List Nat := (if k = 3 then ids else []) ++ (List.range (h'.next - h.next)).map (h.next + ·)
  have hl : ∀ id, id ∈ l ↔ (k = 3 ∧ id ∈ ids) ∨ (h.next ≤ id ∧ id < h'.next) := fun id => by
    show id ∈ (if k = 3 then ids else []) ++ _ ↔ _
    rw [List.mem_append, hmem]
    by_cases h3 : k = 3
    · simp [h3]
    · simp [h3]
  have hfr := evOp_frame he
  rw [hids] at hfr
  have hout : ∀ id, id ∉ l → h'.get id = (h.only ids).get id := fun id hid => by
    rw [hl] at hid
    by_cases h3 : k = 3
    · exact hfr.1 id (fun e => hid (.inl ⟨h3, e⟩)) (fun e => hid (.inr e))
    · exact hfr.2 (by omega) id (by simp) (fun e => hid (.inr e))
  refine ⟨{ rd := o.rd, dst := o.dst, v := v, g := g, part := (h.only ids).tr, after := h'.tr, ids := l, lo := h.next, hi := h'.next },
    ⟨rfl, rfl, .inr ⟨hw, h.only ids, h', rfl, rfl, rfl, rfl, Nat.le_refl _, (by rw [evOper_noCall hnc]; exact he), hsb, fun id _ q => q, hout, fun id a b => (hl id).2 (.inr ⟨a, b⟩)⟩⟩,
    ⟨fun e => by omega, fun e id hid => ?_, fun _ id o e => ?_, fun _ id hid => ?_⟩, rfl, rfl, ⟨agree_self g, fun id o e => ?_, fun id hid => ?_⟩, fun _ => rfl, fun id => ?_⟩
  · have e1 : h' = h.only ids := evOp_reads e he
    rcases (hl id).1 hid with ⟨r, _⟩ | ⟨r1, r2⟩
    · omega
    · rw [e1] at r2
      exact absurd r1 (Nat.not_le.2 r2)
  · have e : (h.only ids).get id = some o := e
    rw [get_only] at e
    split at e
    · rename_i hm; exact inR_one hm
    · cases e
  · rcases (hl id).1 hid with ⟨r, r2⟩ | ⟨r1, r2⟩
    · rw [if_pos r]; exact inR_left (inR_one r2)
    · exact inR_right (inR_rng r1 r2)
  · have e : (h.only ids).get id = some o := e
    rw [get_only] at e
    split at e
    · exact e
    · cases e
  · show h.get id = (h.only ids).get id
    rw [get_only]
    rcases (hl id).1 hid with ⟨_, r2⟩ | ⟨r1, r2⟩
    · rw [if_pos r2]
    · rw [hb id r1]
      split <;> rfl
  · show (patch h.tr h'.tr l).get id = (h.merge h' ids).get id
    rw [get_patch, get_merge]
    by_cases h1 : id ∈ l
    · rw [if_pos h1]
      rcases (hl id).1 h1 with ⟨_, r2⟩ | r1
      · rw [if_pos (.inl r2)]; rfl
      · rw [if_pos (.inr r1)]; rfl
    · rw [if_neg h1]
      split
      · rename_i hq
        have := hout id h1
        rw [get_only] at this
        rcases hq with hq | hq
        · rw [if_pos hq] at this
          exact this.symm
        · exact absurd ((hl id).2 (.inr hq)) h1
      · rfl

theorem Chain.cons_eqv {r : Rec} {R : List Rec} {s t u : S2} (h1 : r.ok s) (h2 : Eqv (r.app s) t) (h3 : Chain R t u) : Chain (r :: R) s u :=
  ⟨h1, Chain.congr ⟨fun i => (h2.1 i).symm, fun i => (h2.2 i).symm⟩ h3⟩

theorem multi_recs (hy : YGrow Y) (hh : HGrow H) : ∀ {l : List (Nat × AOper)} {s s' : St} {acc acc' : List (List Rng × List Rng)},
    (∀ k o, (k, o) ∈ l → k = heapUse o.op ∨ (k = 5 ∧ heapUse o.op ≠ 0)) → s.2.bd → evMulti Y H l s acc = some (s', acc') →
    ∃ E R, acc' = acc.reverse ++ E ∧ Recs Y H s.2.floor s.2.next l E R s'.2.next ∧ Chain R (s.1, s.2.tr) (s'.1, s'.2.tr)
  | [], s, s', acc, acc', hk, hb, he => by
    simp only [evMulti, Option.some.injEq, Prod.mk.injEq] at he
    obtain ⟨rfl, rfl⟩ := he
    exact ⟨[], [], by simp, .nil _, Eqv.refl _⟩
  | (k, o) :: l, (g, h), s', acc, acc', hk, hb, he => by
    have hk' : ∀ k o, (k, o) ∈ l → k = heapUse o.op ∨ (k = 5 ∧ heapUse o.op ≠ 0) := fun k o q => hk k o (List.mem_cons_of_mem _ q)
    have hk0 := hk k o (List.mem_cons_self ..)
    have fin : ∀ {e : List Rng × List Rng} {r : Rec} {s1 : St} {E : List (List Rng × List Rng)} {R : List Rec}, RecOf Y H h.floor o r → Foot k (heapUse o.op) e r → r.lo = h.next → r.lo ≤ r.hi → r.hi = s1.2.next → s1.2.floor = h.floor →
        r.ok (g, h.tr) → Eqv (r.app (g, h.tr)) (s1.1, s1.2.tr) → acc' = (e :: acc).reverse ++ E → Recs Y H s1.2.floor s1.2.next l E R s'.2.next → Chain R (s1.1, s1.2.tr) (s'.1, s'.2.tr) →
        ∃ E R, acc' = acc.reverse ++ E ∧ Recs Y H h.floor h.next ((k, o) :: l) E R s'.2.next ∧ Chain R (g, h.tr) (s'.1, s'.2.tr) := by
      intro e r s1 E R a1 a2 a3 a4 a5 a6 a7 a8 a9 a10 a11
      rw [a6, ← a5] at a10
      exact ⟨e :: E, r :: R, by rw [a9]; simp, .cons a1 a2 (Nat.le_of_eq a3.symm) a4 a10, Chain.cons_eqv a7 a8 a11⟩
    unfold evMulti at he
    split at he
    · rename_i hw
      split at he
      · rename_i k0
        obtain ⟨⟨v, h1⟩, e1, e2⟩ := opt_some.1 he
        have hu : heapUse o.op = 0 := by rcases hk0 with q | ⟨q, _⟩ <;> omega
        obtain ⟨E, R, b1, b2, b3⟩ := multi_recs hy hh (s := (setDst g o.dst v, h)) hk' hb e2
        obtain ⟨r, a1, a2, a3, a4, a5, a6⟩ := rec_none (k := k) hw hu e1
        exact fin a1 a2 a3 (by omega) (s1 := (setDst g o.dst v, h)) a4 rfl a5 a6 b1 b2 b3
      · rename_i k0
        split at he
        · rename_i k5
          obtain ⟨⟨v, h1⟩, e1, e2⟩ := opt_some.1 he
          have q := evOper_grow hy hh e1
          have hu : heapUse o.op ≠ 0 := by rcases hk0 with q | ⟨_, q⟩ <;> omega
          obtain ⟨E, R, b1, b2, b3⟩ := multi_recs hy hh (s := (setDst g o.dst v, h1)) hk' (q.2.2.2.2 hb) e2
          obtain ⟨r, a1, a2, a3, a4, a5, a6⟩ := rec_whole hy hh hb hw hu e1
          subst k5
          exact fin a1 a2 a3 (by rw [a3, a4]; exact q.1) (s1 := (setDst g o.dst v, h1)) a4 q.2.1 a5 a6 b1 b2 b3
        · rename_i k5
          have hu : k = heapUse o.op := by rcases hk0 with q | ⟨q, _⟩; exact q; exact absurd q k5
          split at he
          · rename_i k4
            split at he
            · cases he
            · rename_i hfl
              obtain ⟨⟨v, h1⟩, e1, e2⟩ := opt_some.1 he
              have q := evOper_grow hy hh e1
              have q1 : h.next ≤ h1.next := q.1
              have hb1 : h1.bd := q.2.2.2.2 hb
              obtain ⟨E, R, b1, b2, b3⟩ := multi_recs hy hh (s := (setDst g o.dst v, { h1 with floor := h.floor })) hk' hb1 e2
              obtain ⟨r, a1, a2, a3, a4, a5, a6⟩ := rec_call hy hh hb hw (by omega) (Nat.le_of_not_lt hfl) e1
              subst k4
              exact fin a1 a2 a3 (by rw [a3, a4]; exact q1) (s1 := (setDst g o.dst v, { h1 with floor := h.floor })) a4 rfl a5 a6 b1 b2 b3
          · rename_i k4
            obtain ⟨⟨v, h1⟩, e1, e2⟩ := opt_some.1 he
            have q := evOper_grow hy hh e1
            have q1 : h.next ≤ h1.next := q.1
            have hk3 : k ≤ 3 := by
              have : heapUse o.op ≤ 4 := by unfold heapUse; split <;> omega
              omega
            obtain ⟨E, R, b1, b2, b3⟩ := multi_recs hy hh (s := (setDst g o.dst v, h.merge h1 (usesOf g o.op))) hk' ((merge_grow q).2.2.2.2 hb) e2
            obtain ⟨r, a1, a2, a3, a4, a5, a6⟩ := rec_part hy hh hb hw hu.symm k0 hk3 e1
            exact fin a1 a2 a3 (by rw [a3, a4]; exact q1) (s1 := (setDst g o.dst v, h.merge h1 (usesOf g o.op))) a4 rfl a5 a6 b1 b2 b3
    · rename_i hw
      obtain ⟨E, R, b1, b2, b3⟩ := multi_recs hy hh (s := (setDst g o.dst undef, h)) hk' hb he
      obtain ⟨r, a1, a2, a3, a4, a5, a6⟩ := rec_skip (Y := Y) (H := H) (fl := h.floor) (k := k) (o := o) (h := h) hw
      exact fin a1 a2 a3 (by omega) (s1 := (setDst g o.dst undef, h)) a4 rfl a5 a6 b1 b2 b3
end
end Go.Am

/- A region that draws its order: one operation, at whatever place in the order. -/
namespace Go.Am

/-- a step of the whole heap within a region: the region's new names are those from n0 on; this step's are from lo to hi -/
structure TR (n0 lo hi : Nat) (ρ : Env) (k : AH) (w : World) (ρ' : Env) (k' : AH) (w' : World) : Prop where
  le : ρ.le ρ'
  new : ∀ id, ¬ (lo ≤ id ∧ id < hi) → ρ' id = ρ id
  rel : HRel ρ' k' w'
  size : w.heap.size ≤ w'.heap.size
  keep : ∀ b, b < w.heap.size → ¬ k.owns ρ b → w'.heap[b]? = w.heap[b]?
  own' : ∀ id o r, k'.get id = some o → (k'.wr id o ∨ (n0 ≤ id ∧ k.get id = none)) → ρ' id = some r → w.heap.size ≤ r.block ∨ k.owns ρ r.block
  dom : ∀ id, id < n0 → k.get id = none → k'.get id = none
  alike : Alike w w'

theorem TR.own {n0 lo hi : Nat} {ρ ρ' : Env} {k k' : AH} {w w' : World} (t : TR n0 lo hi ρ k w ρ' k' w') (b : Nat) (hb : k'.owns ρ' b) : w.heap.size ≤ b ∨ k.owns ρ b := by
  obtain ⟨id, o, r, h1, h2, h3, rfl⟩ := hb
  exact t.own' id o r h1 (.inl h2) h3

theorem TR.widen {n0 lo hi lo' hi' : Nat} {ρ ρ' : Env} {k k' : AH} {w w' : World} (t : TR n0 lo hi ρ k w ρ' k' w') (h1 : lo' ≤ lo) (h2 : hi ≤ hi') : TR n0 lo' hi' ρ k w ρ' k' w' :=
  ⟨t.le, fun id h => t.new id (by omega), t.rel, t.size, t.keep, t.own', t.dom, t.alike⟩

theorem TR.trans {n0 lo hi : Nat} {ρ ρ₁ ρ₂ : Env} {k k₁ k₂ : AH} {w w₁ w₂ : World} (a : TR n0 lo hi ρ k w ρ₁ k₁ w₁) (b : TR n0 lo hi ρ₁ k₁ w₁ ρ₂ k₂ w₂) : TR n0 lo hi ρ k w ρ₂ k₂ w₂ := by
  refine ⟨Env.le_trans a.le b.le, fun id h => (b.new id h).trans (a.new id h), b.rel, Nat.le_trans a.size b.size, fun x hx ho => ?_, fun id o r h1 h2 h3 => ?_, fun id hid e => b.dom id hid (a.dom id hid e), a.alike.trans b.alike⟩
  · rw [b.keep x (Nat.lt_of_lt_of_le hx a.size) (fun o => by rcases a.own x o with h | h; · omega
                                                             · exact ho h), a.keep x hx ho]
  · have step : w₁.heap.size ≤ r.block ∨ k₁.owns ρ₁ r.block → w.heap.size ≤ r.block ∨ k.owns ρ r.block := fun q => by
      rcases q with q | q
      · exact .inl (Nat.le_trans a.size q)
      · exact a.own _ q
    rcases h2 with h2 | ⟨h2, h4⟩
    · exact step (b.own' id o r h1 (.inl h2) h3)
    · cases ho : k₁.get id with
      | none => exact step (b.own' id o r h1 (.inr ⟨h2, ho⟩) h3)
      | some o1 =>
        obtain ⟨r1, g1, _⟩ := a.rel.obj id o1 ho
        have := b.le _ _ g1
        rw [h3] at this
        injection this with this
        subst this
        exact a.own' id o1 r ho (.inr ⟨h2, h4⟩) g1

theorem HRel.congr {ρ : Env} {k k' : AH} {w : World} (h : HRel ρ k w) (hg : ∀ id, k'.get id = k.get id) (hf : k'.floor = k.floor) (hn : ∀ id, id < k.next → k.get id ≠ none → id < k'.next) : HRel ρ k' w := by
  refine ⟨fun id o ho => h.obj id o (hg id ▸ ho), fun i j oi oj ri rj hi hj hne hri hrj hw => h.inj i j oi oj ri rj (hg i ▸ hi) (hg j ▸ hj) hne hri hrj ⟨hf ▸ hw.1, hw.2⟩, fun id o ho => ?_⟩
  rw [hg] at ho
  exact hn id (h.bound id o ho) (by rw [ho]; simp)

theorem TR.refl' {n0 lo hi : Nat} {ρ : Env} {k k' : AH} {w : World} (h : HRel ρ k w) (hg : ∀ id, k'.get id = k.get id) (hf : k'.floor = k.floor) (hn : k'.next = k.next) : TR n0 lo hi ρ k w ρ k' w := by
  refine ⟨Env.le_refl _, fun _ _ => rfl, h.congr hg hf (fun id q _ => by omega), Nat.le_refl _, fun _ _ _ => rfl, fun id o r h1 h2 h3 => .inr ?_, fun id _ e => (hg id).trans e, .refl _⟩
  rw [hg] at h1
  rcases h2 with h2 | ⟨_, h2⟩
  · exact ⟨id, o, r, h1, ⟨hf ▸ h2.1, h2.2⟩, h3, rfl⟩
  · rw [h1] at h2; cases h2

theorem HRel.part {ρ : Env} {s k : AH} {w : World} (h : HRel ρ k w) (hs : ∀ id o, s.get id = some o → k.get id = some o) (hf : k.floor ≤ s.floor) (hb : s.bd) : HRel ρ s w :=
  ⟨fun id o ho => h.obj id o (hs id o ho), fun i j oi oj ri rj hi hj hne hri hrj hw => h.inj i j oi oj ri rj (hs i oi hi) (hs j oj hj) hne hri hrj ⟨Nat.le_trans hf hw.1, hw.2⟩, fun _ _ ho => hb.lt ho⟩

theorem TR.of_part {n0 : Nat} {ρ ρ' : Env} {s s' k : AH} {l : List Nat} {w w' : World} (p : Part ρ s k l s') (hr : HRel ρ k w) (t : Trans ρ s w ρ' s' w') (hn : n0 ≤ s.next) :
    TR n0 s.next s'.next ρ k w ρ' { k with tr := patch k.tr s'.tr l } w' := by
  have hget : ∀ i, ({ k with tr := patch k.tr s'.tr l } : AH).get i = if i ∈ l then s'.get i else k.get i := fun i => get_patch _ _ _ _
  have hown : ∀ b, s.owns ρ b → k.owns ρ b := by
    rintro b ⟨id, o, r, h1, h2, h3, h4⟩
    exact ⟨id, o, r, p.sub _ _ h1, ⟨Nat.le_trans p.floor h2.1, h2.2⟩, h3, h4⟩
  refine ⟨t.le, t.new, p.trans hr t, t.size, fun b hb ho => t.keep b hb (fun q => ho (hown b q)), fun id o r h1 h2 h3 => ?_, fun id hid e => ?_, t.alike⟩
  · rw [hget] at h1
    by_cases hl : id ∈ l
    · rw [if_pos hl] at h1
      rcases h2 with h2 | ⟨h2, h4⟩
      · exact (t.own' id o r h1 (.inl ⟨t.floor ▸ p.high id hl h2.1, h2.2⟩) h3).imp_right (hown _)
      · rw [p.mine id hl] at h4
        have hnew : s.next ≤ id := Nat.le_of_not_lt fun hlt => by rw [t.dom id hlt h4] at h1; cases h1
        exact (t.own' id o r h1 (.inr hnew) h3).imp_right (hown _)
    · rw [if_neg hl] at h1
      rcases h2 with h2 | ⟨h2, h4⟩
      · obtain ⟨r0, g1, _⟩ := hr.obj id o h1
        have := t.le _ _ g1
        rw [h3] at this
        injection this with this
        subst this
        exact .inr ⟨id, o, r, h1, h2, g1, rfl⟩
      · rw [h4] at h1; cases h1
  · rw [hget]
    split
    · rename_i hl
      rw [p.mine id hl] at e
      exact t.dom id (by omega) e
    · exact e

/-- an operation, as it is compiled; a call of numbers alone may be met in no heap -/
def CompAs (P : Program) (n : Nat) (ops : Array Oper) (o : Oper) (ao : AOper) : Prop :=
  ao = compOper P n ops o ∨ ∃ f args, (compOper P n ops o).op = .call f args ∧ ao = { compOper P n ops o with op := .pcall f args }

section
variable {P : Program} {F : Fence} {n : Nat} {ρ : Env} {g : RT} {a : Act} {k : AH} {w : World}

theorem rec_step (hF : WideF F) {m : Nat} {H : CallH} (hH : HSound P H) {Y : YH} (hy : YGrow Y) (hY : YSound P ρ Y) (hf : FRel n ρ g a) (hr : HRel ρ k w) {ops : Array Oper} {o : Oper} {i n0 : Nat} {ao : AOper} {r : Rec}
    (hi : ops[i]? = some o) (hc : CompAs P n ops o ao) (hrec : RecOf Y H k.floor ao r) (hok : r.ok (g, k.tr)) (hN : r.hi ≤ k.next) (hlo : n0 ≤ r.lo) (hfr : ∀ id, r.lo ≤ id → id < r.hi → ρ id = none)
    {K : Act → World → Prop} {Q : Exit → Act → World → Prop}
    (hK : ∀ a' w' ρ', FRel n ρ' (setDst g r.dst r.v) a' → TR n0 r.lo r.hi ρ k w ρ' { k with tr := patch k.tr r.after r.ids } w' → a'.defers = a.defers → K a' w') : wpOpIn F m P ops Q i K a w := by
  unfold wpOpIn
  simp only [hi]
  have hbad : ∀ q, (compOper P n ops o).op = .bad q → (compOper P n ops o).guard = none → False := fun q e1 e2 => by
    have hao : ao = compOper P n ops o := by
      rcases hc with rfl | ⟨f, args, h1, _⟩
      · rfl
      · rw [e1] at h1; cases h1
    rcases hrec.run with ⟨h1, _⟩ | ⟨_, s, s', _, _, _, _, _, h1, _⟩
    · rw [hao, e2] at h1; cases h1
    · rw [hao, e1] at h1; cases h1
  rcases compOper_cases P n ops o with hb | ⟨gd, hgd, hb⟩
  · exact (hbad 1 (by rw [hb]) (by rw [hb])).elim
  · have hgu : ao.guard = gd := by rcases hc with rfl | ⟨f, args, _, rfl⟩ <;> rw [hb]
    have hds : ao.dst = compDst n o.dst := by rcases hc with rfl | ⟨f, args, _, rfl⟩ <;> rw [hb]
    have hwants : wants r.g ao.guard = wants g gd := by
      rw [hgu]
      cases gd with
      | none => rfl
      | some p =>
        obtain ⟨d, b⟩ := p
        have hd : d ∈ r.rd := by rw [hrec.rd, AOper.rd, hgu]; exact List.mem_cons_self ..
        simp only [wants, hok.1 d hd]
    have hag : Agree ao.op.regs r.g g := fun x hx => (hok.1 x (by
      rw [hrec.rd, AOper.rd]
      split
      · exact List.mem_cons_of_mem _ hx
      · exact hx)).symm
    have hdst : r.dst = compDst n o.dst := hrec.dst.trans hds
    rw [wants_eq hf hgd, ← hwants]
    rcases hrec.run with ⟨h1, h2, h3⟩ | ⟨h1, s, s', p1, p2, p3, p4, p5, p6, p7, p8, p9, p10⟩
    · rw [if_neg (by rw [h1]; simp)]
      refine ⟨fun f _ => hF.1 f, hK _ _ ρ ?_ (.refl' hr (fun id => ?_) rfl rfl) (put_defers' _ _ _)⟩
      · rw [h2, hdst]
        exact hf.put den_undef o.dst
      · rw [h3]; rfl
    · rw [if_pos h1]
      rw [evOper_agree hag] at p6
      have hsub : ∀ id o, s.get id = some o → k.get id = some o := fun id o ho => hok.2.1 id o (by rw [← p1]; exact ho)
      have hmine : ∀ id, id ∈ r.ids → k.get id = s.get id := fun id hid => (hok.2.2 id hid).trans (by rw [← p1]; rfl)
      have hs : HRel ρ s w := hr.part hsub p5 p7
      have hpart : Part ρ s k r.ids s' := ⟨hsub, p5, p8, by rw [p4]; exact hN, fun id q1 q2 => by
        rw [hmine id (p10 id (by omega) (by omega))]
        exact p7 id q1, p9, hmine⟩
      have hfresh : Fresh ρ s s' := fun id q1 q2 => hfr id (by omega) (by omega)
      have hnext : Next' ρ s w r.v s' o.dst a K := fun x w' ρ' hx ht => by
        refine hK _ _ ρ' ?_ ?_ (put_defers' _ _ _)
        · rw [hdst]
          exact (hf.mono ht.le).put hx o.dst
        · have := TR.of_part (n0 := n0) hpart hr ht (by omega)
          rw [p3, p4, p2] at this
          exact this
      rcases hc with rfl | ⟨f, args, hcall, rfl⟩
      · rw [hb] at p6
        cases hq : compOp2 P o with
        | none => rw [hq] at p6; cases p6
        | some aop =>
          rw [hq] at p6
          exact op_call hF hH hy hY hf hs hq hfresh p6 hnext
      · rw [hb] at hcall
        cases hq : compOp2 P o with
        | none => rw [hq] at hcall; cases hcall
        | some aop =>
          rw [hq] at hcall
          have e : aop = .call f args := hcall
          rw [e] at hq
          exact op_pcall hF hH hf hs hq p6 hnext
end
end Go.Am

/- A region that draws its order: all of it. -/
namespace Go.Am

theorem Eqv.frel {n : Nat} {ρ : Env} {s t : S2} {a : Act} (e : Eqv s t) (h : FRel n ρ s.1 a) : FRel n ρ t.1 a :=
  ⟨⟨fun i => by rw [← e.1 i]; exact h.reg i, h.size⟩, h.glob⟩

section
variable {P : Program} {F : Fence} {n : Nat}

/-- two records in their order -/
def Apart2 (ops : Array Oper) (x y : Rec × Nat) : Prop :=
  x.2 < y.2 ∧ x.1.hi ≤ y.1.lo ∧ (((Region.before ops).getD y.2 0).testBit x.2 = false → Indep x.1 y.1)

theorem any_sound (hF : WideF F) {m : Nat} {H : CallH} (hH : HSound P H) {Y : YH} (hy : YGrow Y) {ops : Array Oper} {n0 N fl : Nat} {fin : S2} {Q : Exit → Act → World → Prop} (hed : edgesOk ops = true) :
    ∀ (fuel : Nat) (rem : List (Rec × Nat)) (listed : Array Bool) {ρ : Env} {g : RT} {a : Act} {k : AH} {w : World}, rem.length = fuel → listed.size = ops.size →
      (∀ i, listed.getD i true = false ↔ ∃ r, (r, i) ∈ rem) →
      (∀ i o, listed.getD i false = true → ops[i]? = some o → ∀ e, e ∈ o.after → Region.binds .any e = true → listed.getD e.on false = true) →
      rem.Pairwise (Apart2 ops) →
      (∀ r i, (r, i) ∈ rem → ∃ o ao, ops[i]? = some o ∧ CompAs P n ops o ao ∧ RecOf Y H fl ao r ∧ n0 ≤ r.lo ∧ r.lo ≤ r.hi ∧ r.hi ≤ N ∧ ∀ id, r.lo ≤ id → id < r.hi → ρ id = none) →
      Chain (rem.map (·.1)) (g, k.tr) fin → k.next = N → k.floor = fl → YSound P ρ Y → FRel n ρ g a → HRel ρ k w →
      (∀ a' w' ρ', FRel n ρ' fin.1 a' → TR n0 n0 N ρ k w ρ' { k with tr := fin.2 } w' → a'.defers = a.defers → Q .normal a' w') → wpAnyIn F m P .any ops Q fuel listed a w := by
  intro fuel
  induction fuel with
  | zero =>
    intro rem listed ρ g a k w hlen hsz hlist hdone hpw hrec hch hkn hkf hY hf hr hQ
    have e : rem = [] := List.eq_nil_of_length_eq_zero hlen
    subst e
    refine ⟨?_, hQ _ _ ρ (Eqv.frel hch hf) (.refl' hr (fun id => (hch.2 id).symm) rfl rfl) rfl⟩
    cases hrd : Region.ready .any ops listed with
    | nil => rfl
    | cons i l =>
      have hi : i ∈ Region.ready .any ops listed := by rw [hrd]; exact List.mem_cons_self ..
      obtain ⟨r, hr⟩ := (hlist i).1 (mem_ready.1 hi).1
      cases hr
  | succ fuel ih =>
    intro rem listed ρ g a k w hlen hsz hlist hdone hpw hrec hch hkn hkf hY hf hr hQ
    have hset : ∀ i j, i < ops.size → ((listed.setIfInBounds i true).getD j true = false ↔ j ≠ i ∧ listed.getD j true = false) := fun i j hi => by
      by_cases e : j = i
      · subst e
        simp [Array.getD_eq_getD_getElem?, hsz, hi]
      · rw [getD_set_ne true (Ne.symm e)]
        simp [e]
    have hgd : ∀ j, j < ops.size → (listed.getD j false = true ↔ ¬ listed.getD j true = false) := fun j hj => by
      have : j < listed.size := by omega
      simp [Array.getD_eq_getD_getElem?, this]
    refine ⟨fun hnil => ?_, fun i hi => ?_⟩
    · -- the first one left is ready
      cases rem with
      | nil => simp at hlen
      | cons x rest =>
        obtain ⟨r, i⟩ := x
        obtain ⟨o, ao, ho, _⟩ := hrec r i (List.mem_cons_self ..)
        have hlt : i < ops.size := (Array.getElem?_eq_some_iff.1 ho).1
        have hready : i ∈ Region.ready .any ops listed := by
          refine mem_ready.2 ⟨(hlist i).2 ⟨r, List.mem_cons_self ..⟩, o, ho, fun e he hb => ?_⟩
          have hon : e.on < i := by
            unfold edgesOk at hed
            rw [List.all_eq_true] at hed
            have hmem : (o, i) ∈ ops.toList.zipIdx := by
              rw [List.mem_zipIdx_iff_getElem?]
              simpa using ho
            have := hed (o, i) hmem
            dsimp only at this
            rw [List.all_eq_true] at this
            have := this e (by simpa using he)
            rw [hb] at this
            simpa using this
          rw [hgd _ (by omega)]
          intro hun
          obtain ⟨r', hr'⟩ := (hlist e.on).1 hun
          rcases List.mem_cons.1 hr' with hr' | hr'
          · injection hr' with _ hr'
            omega
          · have := (List.pairwise_cons.1 hpw).1 _ hr'
            have := this.1
            dsimp only at this
            omega
        rw [hnil] at hready
        cases hready
    · obtain ⟨hun, o, ho, hall⟩ := mem_ready.1 hi
      have hlt : i < ops.size := (Array.getElem?_eq_some_iff.1 ho).1
      obtain ⟨r, hri⟩ := (hlist i).1 hun
      obtain ⟨l1, l2, rfl⟩ := List.append_of_mem hri
      have hpw' := hpw
      rw [List.pairwise_append] at hpw'
      obtain ⟨hp1, hp2, hp3⟩ := hpw'
      rw [List.pairwise_cons] at hp2
      have hind : ∀ b, b ∈ l1.map (·.1) → Indep b r := by
        intro b hb
        obtain ⟨⟨b', j⟩, hbj, rfl⟩ := List.mem_map.1 hb
        obtain ⟨q1, q2, q3⟩ := hp3 _ hbj _ (List.mem_cons_self ..)
        refine q3 ?_
        cases hbit : ((Region.before ops).getD i 0).testBit j with
        | false => rfl
        | true =>
          exfalso
          have hd := before_listed ops (fun x => listed.getD x false = true) hdone i o ho hall j hbit
          have hju := (hlist j).2 ⟨b', List.mem_append_left _ hbj⟩
          have hjlt : j < ops.size := by
            dsimp only at q1
            omega
          exact (hgd j hjlt).1 hd hju
      rw [List.map_append, List.map_cons] at hch
      have hch' := Chain.front hind hch
      obtain ⟨o', ao, ho', hc, hro, hlo, hlohi, hhi, hfree⟩ := hrec r i hri
      rw [ho] at ho'
      injection ho' with ho'
      subst ho'
      subst hkf
      refine rec_step hF hH hy hY hf hr ho hc hro hch'.1 (by omega) hlo hfree fun a' w' ρ' hf' ht hd => ?_
      refine ih (l1 ++ l2) (listed.setIfInBounds i true) (ρ := ρ') (g := setDst g r.dst r.v) (k := { k with tr := patch k.tr r.after r.ids }) (by simp at hlen ⊢; omega) (by simpa using hsz) (fun j => ?_) (fun j oj hj hoj e he hb => ?_)
        (hpw.sublist (List.Sublist.append_left (List.sublist_cons_self ..) _)) (fun r' j hj => ?_) (by rw [List.map_append]; exact hch'.2) hkn rfl (hY.mono ht.le) hf' ht.rel
        (fun a'' w'' ρ'' hf'' ht'' hd' => hQ a'' w'' ρ'' hf'' ((ht.widen hlo hhi).trans ht'') (hd'.trans hd))
      · rw [hset i j hlt, hlist j]
        constructor
        · rintro ⟨hne, r', hr'⟩
          refine ⟨r', ?_⟩
          rcases List.mem_append.1 hr' with q | q
          · exact List.mem_append_left _ q
          · rcases List.mem_cons.1 q with q | q
            · injection q with _ q; exact absurd q hne
            · exact List.mem_append_right _ q
        · rintro ⟨r', hr'⟩
          rcases List.mem_append.1 hr' with q | q
          · have := (hp3 _ q _ (List.mem_cons_self ..)).1
            dsimp only at this
            exact ⟨by omega, r', List.mem_append_left _ q⟩
          · have := (hp2.1 _ q).1
            dsimp only at this
            exact ⟨by omega, r', List.mem_append_right _ (List.mem_cons_of_mem _ q)⟩
      · by_cases hji : j = i
        · subst hji
          rw [ho] at hoj
          injection hoj with hoj
          subst hoj
          exact getD_set_true (hall e he hb)
        · rw [getD_set_ne false (Ne.symm hji)] at hj
          exact getD_set_true (hdone j oj hj hoj e he hb)
      · have hmem : (r', j) ∈ l1 ++ (r, i) :: l2 := by
          rcases List.mem_append.1 hj with q | q
          · exact List.mem_append_left _ q
          · exact List.mem_append_right _ (List.mem_cons_of_mem _ q)
        obtain ⟨oj, aoj, q1, q2, q3, q4, q5, q6, q7⟩ := hrec r' j hmem
        refine ⟨oj, aoj, q1, q2, q3, q4, q5, q6, fun id p1 p2 => ?_⟩
        rw [ht.new id ?_]
        · exact q7 id p1 p2
        · rcases List.mem_append.1 hj with q | q
          · have := (hp3 _ q _ (List.mem_cons_self ..)).2.1
            dsimp only at this
            omega
          · have := (hp2.1 _ q).2.1
            dsimp only at this
            omega

theorem inR_apart {x y : List Rng} (h : apart x y = true) {id : Nat} (h1 : inR x id) (h2 : inR y id) : False := by
  obtain ⟨a, ha, a1, a2⟩ := h1
  obtain ⟨b, hb, b1, b2⟩ := h2
  unfold apart at h
  rw [List.all_eq_true] at h
  have := h a ha
  rw [List.all_eq_true] at this
  have := this b hb
  unfold apartR at this
  simp only [Bool.or_eq_true, decide_eq_true_eq, beq_iff_eq] at this
  omega

/-- the registers of two operations without an order -/
theorem indep_of {Y : YH} {H : CallH} {fl : Nat} {oa ob : AOper} {a b : Rec} {ka kb : Nat} {ea eb : List Rng × List Rng} (ha : RecOf Y H fl oa a) (hb : RecOf Y H fl ob b) (fa : Foot ka (heapUse oa.op) ea a) (fb : Foot kb (heapUse ob.op) eb b)
    (h1 : freeOf oa ob = true) (h2 : freeOf ob oa = true)
    (hc : heapUse oa.op = 0 ∨ heapUse ob.op = 0 ∨ (heapUse oa.op ≤ 1 ∧ heapUse ob.op ≤ 1) ∨ (ka ≠ 5 ∧ kb ≠ 5 ∧ apart ea.1 eb.2 = true ∧ apart eb.1 ea.2 = true ∧ apart ea.2 eb.2 = true)) : Indep a b := by
  have hreg1 : ∀ d, a.dst = some d → d ∉ b.rd ∧ b.dst ≠ some d := fun d hd => by
    rw [ha.dst] at hd
    rw [hb.dst, hb.rd]
    unfold freeOf at h1
    rw [hd] at h1
    simp only [Bool.and_eq_true, Bool.not_eq_true', beq_eq_false_iff_ne] at h1
    exact ⟨by simpa using h1.1, h1.2⟩
  have hreg2 : ∀ d, b.dst = some d → d ∉ a.rd := fun d hd => by
    rw [hb.dst] at hd
    rw [ha.rd]
    unfold freeOf at h2
    rw [hd] at h2
    simp only [Bool.and_eq_true, Bool.not_eq_true', beq_eq_false_iff_ne] at h2
    simpa using h2.1
  have hnone : ∀ {x : Option AO}, (∀ o, x = some o → False) → x = none := fun {x} q => by
    cases x with
    | none => rfl
    | some o => exact (q o rfl).elim
  rcases hc with hc | hc | ⟨hc1, hc2⟩ | ⟨c1, c2, c3, c4, c5⟩
  · obtain ⟨q1, q2⟩ := fa.none hc
    exact ⟨hreg1, hreg2, fun id hid => absurd hid (q1 id), fun id _ => q2 id⟩
  · obtain ⟨q1, q2⟩ := fb.none hc
    exact ⟨hreg1, hreg2, fun id hid => ⟨q2 id, q1 id⟩, fun id hid => absurd hid (q1 id)⟩
  · exact ⟨hreg1, hreg2, fun id hid => absurd hid (fa.read hc1 id), fun id hid => absurd hid (fb.read hc2 id)⟩
  · exact ⟨hreg1, hreg2, fun id hid => ⟨hnone fun o e => inR_apart c4 (fb.u c2 id o e) (fa.t c1 id hid), fun q => inR_apart c5 (fa.t c1 id hid) (fb.t c2 id q)⟩,
      fun id hid => hnone fun o e => inR_apart c3 (fa.u c1 id o e) (fb.t c2 id hid)⟩

variable {ρ : Env} {g g' : RT} {a : Act} {h h' : AH} {w : World}

theorem multi_sound (hF : WideF F) {m : Nat} {H : CallH} (hH : HSound P H) (hh : HGrow H) {Y : YH} (hy : YGrow Y) (hY : YSound P ρ Y) (hf : FRel n ρ g a) (hr : HRel ρ h w) (hfr : Fresh ρ h h') {ops : Array Oper} {id : Nat} {Q : Exit → Act → World → Prop}
    (hmix : P.follows .mixedOrders = true) (hed : edgesOk ops = true) {LM : List (Nat × AOper)} {acc : List (List Rng × List Rng)} {pairs : List (Nat × Nat)}
    (hlen : LM.length = ops.size) (hcomp : ∀ (i : Nat) (o : Oper) (k : Nat) (ao : AOper), ops[i]? = some o → LM[i]? = some (k, ao) → CompAs P n ops o ao)
    (hkinds : ∀ k o, (k, o) ∈ LM → k = heapUse o.op ∨ (k = 5 ∧ heapUse o.op ≠ 0))
    (hfree : ∀ (i j ki kj : Nat) (oi oj : AOper), i < j → LM[i]? = some (ki, oi) → LM[j]? = some (kj, oj) → ((Region.before ops).getD j 0).testBit i = false → freeOf oi oj = true ∧ freeOf oj oi = true ∧
      (heapUse oi.op = 0 ∨ heapUse oj.op = 0 ∨ (heapUse oi.op ≤ 1 ∧ heapUse oj.op ≤ 1) ∨ ((i, j) ∈ pairs ∧ ki ≠ 5 ∧ kj ≠ 5)))
    (he : evMulti Y H LM (g, h) [] = some ((g', h'), acc)) (hp : pairsOk acc pairs = true)
    (hQ : ∀ a' w' ρ', FRel n ρ' g' a' → Trans ρ h w ρ' h' w' → a'.defers = a.defers → Q .normal a' w') : (Code.region id ops true).wpIn F m P Q a w := by
  have hbd : h.bd := fun i hi => by
    cases hg : h.get i with
    | none => rfl
    | some o => exact absurd (hr.bound i o hg) (Nat.not_lt.2 hi)
  have hgrow := evMulti_grow hy hh he
  obtain ⟨E, R, e1, e2, e3⟩ := multi_recs hy hh (s := (g, h)) hkinds hbd he
  simp only [List.reverse_nil, List.nil_append] at e1
  subst e1
  obtain ⟨l1, l2⟩ := e2.get
  have hnn : h.next ≤ h'.next := hgrow.1
  have hsize : R.length = ops.size := by rw [l1, hlen]
  refine wpIn_region_any hmix ?_
  refine any_sound hF hH hy (n0 := h.next) (N := h'.next) (fl := h.floor) (fin := (g', h'.tr)) hed ops.size R.zipIdx _ (ρ := ρ) (g := g) (k := { h with next := h'.next }) (by simpa using hsize) (by simp) (fun i => ?_) (fun i o hi => ?_) ?_ (fun r i hri => ?_) ?_ rfl rfl hY hf ?_
    (fun a' w' ρ' hf' ht hd => hQ a' w' ρ' hf' ?_ hd)
  · constructor
    · intro hi
      have hlt : i < ops.size := by
        rcases Nat.lt_or_ge i ops.size with q | q
        · exact q
        · rw [Array.getD_eq_getD_getElem?, Array.getElem?_eq_none (by simpa using q)] at hi
          cases hi
      refine ⟨R[i]'(by omega), ?_⟩
      rw [List.mem_zipIdx_iff_getElem?]
      exact List.getElem?_eq_getElem _
    · rintro ⟨r, hri⟩
      rw [List.mem_zipIdx_iff_getElem?] at hri
      have hlt : i < ops.size := by
        have := (List.getElem?_eq_some_iff.1 hri).1
        dsimp only at this
        omega
      simp [Array.getD_eq_getD_getElem?, hlt]
  · exfalso
    rw [Array.getD_eq_getD_getElem?] at hi
    cases hq : (Array.replicate ops.size false)[i]? with
    | none => rw [hq] at hi; cases hi
    | some b =>
      rw [hq] at hi
      have := Array.getElem?_replicate (n := ops.size) (v := false) (i := i)
      rw [hq] at this
      split at this
      · injection this with this; subst this; cases hi
      · cases this
  · rw [List.pairwise_iff_getElem]
    intro i j hi hj hij
    have hi' : i < R.length := by simpa using hi
    have hj' : j < R.length := by simpa using hj
    obtain ⟨ki, oi, ei, p1, p2, p3, p4, p5, p6, p7⟩ := l2 i R[i] (List.getElem?_eq_getElem hi')
    obtain ⟨kj, oj, ej, q1, q2, q3, q4, q5, q6, q7⟩ := l2 j R[j] (List.getElem?_eq_getElem hj')
    refine ⟨by simpa using hij, ?_, ?_⟩
    · simpa using e2.apart i j R[i] R[j] hij (List.getElem?_eq_getElem hi') (List.getElem?_eq_getElem hj')
    · simp only [List.getElem_zipIdx, Nat.zero_add]
      intro hbit
      obtain ⟨f1, f2, f3⟩ := hfree i j ki kj oi oj hij p1 q1 hbit
      refine indep_of p3 q3 p4 q4 f1 f2 ?_
      rcases f3 with f3 | f3 | f3 | ⟨f3, f4, f5⟩
      · exact .inl f3
      · exact .inr (.inl f3)
      · exact .inr (.inr (.inl f3))
      · refine .inr (.inr (.inr ⟨f4, f5, ?_⟩))
        unfold pairsOk at hp
        rw [List.all_eq_true] at hp
        have := hp (i, j) f3
        dsimp only at this
        rw [p2, q2] at this
        simpa [Bool.and_eq_true, and_assoc] using this
  · rw [List.mem_zipIdx_iff_getElem?] at hri
    dsimp only at hri
    have hlt : i < ops.size := by
      have := (List.getElem?_eq_some_iff.1 hri).1
      omega
    obtain ⟨k, ao, e, p1, p2, p3, p4, p5, p6, p7⟩ := l2 i r hri
    have p5' : h.next ≤ r.lo := p5
    have p7' : r.hi ≤ h'.next := p7
    exact ⟨ops[i], ao, Array.getElem?_eq_getElem hlt, hcomp i _ k ao (Array.getElem?_eq_getElem hlt) p1, p3, p5, p6, p7, fun x x1 x2 => hfr x (by omega) (by omega)⟩
  · have : R.zipIdx.map (·.1) = R := by simp
    rw [this]
    exact e3
  · refine (Trans.drew hr (w.drawn + 1)).rel.congr (fun _ => rfl) rfl fun x hx _ => ?_
    show x < h'.next
    omega
  · have hbd2 := hgrow.2.2.2.2 hbd
    refine ⟨ht.le, ht.new, hnn, hgrow.2.1, ht.rel.congr (fun _ => rfl) hgrow.2.1 fun x hx _ => hx, ht.size, ht.keep, fun id o r h1 h2 h3 => ?_, ht.dom, Alike.trans (b := { w with drawn := w.drawn + 1 }) ⟨rfl, rfl, rfl⟩ ht.alike⟩
    have hfl : h'.floor = h.floor := hgrow.2.1
    rcases h2 with h2 | h2
    · exact ht.own' id o r h1 (.inl ⟨hfl ▸ h2.1, h2.2⟩) h3
    · exact ht.own' id o r h1 (.inr ⟨h2, hbd id h2⟩) h3
end
end Go.Am

/- A region, as it is compiled. -/
namespace Go.Am

theorem mem_clashes {ks : List Nat} {b : Array Nat} {i j k k' : Nat} (hi : ks[i]? = some k) (hj : ks[j]? = some k') (h0 : k ≠ 0) (h0' : k' ≠ 0) (hij : i < j) (hb : (b.getD j 0).testBit i = false) (h2 : 2 ≤ k ∨ 2 ≤ k') :
    (i, j) ∈ clashes ks b := by
  unfold clashes
  rw [List.mem_flatMap]
  have h1 : ∀ (i k : Nat), ks[i]? = some k → k ≠ 0 → (k, i) ∈ ks.zipIdx.filter (·.1 ≠ 0) := fun i k h hk => by
    rw [List.mem_filter, List.mem_zipIdx_iff_getElem?]
    exact ⟨h, by simpa using hk⟩
  refine ⟨(k, i), h1 i k hi h0, ?_⟩
  rw [List.mem_filterMap]
  refine ⟨(k', j), h1 j k' hj h0', ?_⟩
  dsimp only
  rw [if_pos ⟨hij, by simpa using hb, h2⟩]

theorem freeOf_of {l : List AOper} {b : Array Nat} (h : regsOk l b = true) {i j : Nat} {o p : AOper} (hi : l[i]? = some o) (hj : l[j]? = some p) (hij : i < j) (hb : (b.getD j 0).testBit i = false) :
    freeOf o p = true ∧ freeOf p o = true := by
  unfold regsOk at h
  rw [List.all_eq_true] at h
  have h1 := h (p, j) (by rw [List.mem_zipIdx_iff_getElem?]; exact hj)
  dsimp only at h1
  rw [List.all_eq_true] at h1
  have h2 := h1 (o, i) (by rw [List.mem_zipIdx_iff_getElem?]; exact hi)
  dsimp only at h2
  rw [hb] at h2
  simpa [hij] using h2

theorem freeOf_congr {o o' p p' : AOper} (h1 : o'.dst = o.dst) (h2 : o'.rd = o.rd) (h3 : p'.dst = p.dst) (h4 : p'.rd = p.rd) : freeOf o' p' = freeOf o p := by
  unfold freeOf
  rw [h1, h3, h4]

theorem range_ops {α : Type} (ops : Array Oper) (f : Oper → α) : (List.range ops.size).filterMap (fun i => (ops[i]?).map f) = ops.toList.map f := by
  have : ∀ l : List Oper, (List.range l.length).filterMap (fun i => (l[i]?).map f) = l.map f := by
    intro l
    induction l with
    | nil => rfl
    | cons x l ih =>
      rw [List.length_cons, List.range_succ_eq_map, List.filterMap_cons]
      simp only [List.getElem?_cons_zero, Option.map_some, List.map_cons, List.filterMap_map]
      congr 1
  have h := this ops.toList
  simp only [Array.length_toList, Array.getElem?_toList] at h
  exact h

/-- a list of operations in its order is a region whose orders do not differ -/
theorem ops_multi {Y : YH} {H : CallH} : ∀ {l : List AOper} {s s' : St} (acc : List (List Rng × List Rng)), evOps Y H l s = some s' →
    ∃ acc', evMulti Y H (l.map fun o => (if heapUse o.op = 0 then 0 else 5, o)) s acc = some (s', acc')
  | [], s, s', acc, he => by injection he with he; subst he; exact ⟨_, rfl⟩
  | o :: l, (g, h), s', acc, he => by
    simp only [List.map_cons, evMulti]
    simp only [evOps] at he
    split at he
    · rename_i hw
      rw [if_pos hw]
      obtain ⟨⟨v, h1⟩, e1, e2⟩ := opt_some.1 he
      obtain ⟨acc', q⟩ := ops_multi (([], []) :: acc) e2
      by_cases hu : heapUse o.op = 0
      · simp only [hu, if_true, e1, opt]
        rw [(evOper_pure hu e1 h).1] at q
        exact ⟨acc', q⟩
      · simp only [hu, if_false, e1, opt]
        rw [if_neg (by omega)]
        exact ⟨acc', q⟩
    · rename_i hw
      rw [if_neg hw]
      exact ops_multi _ he

def pcalls (P : Program) (cl : List (Nat × Nat)) (l : List AOper) : List AOper :=
  l.zipIdx.map fun (o, i) => match o.op with
    | .call f args => if cl.any (fun (a, c) => a == i || c == i) && scalarF P f then { o with op := .pcall f args } else o
    | _ => o
theorem pcalls_get {P : Program} {cl : List (Nat × Nat)} {l : List AOper} {i : Nat} {ao : AOper} (h : (pcalls P cl l)[i]? = some ao) :
    ∃ o, l[i]? = some o ∧ (ao = o ∨ ∃ f args, o.op = .call f args ∧ ao = { o with op := .pcall f args }) := by
  unfold pcalls at h
  rw [List.getElem?_map, List.getElem?_zipIdx] at h
  cases ho : l[i]? with
  | none => rw [ho] at h; cases h
  | some o =>
    rw [ho] at h
    simp only [Option.map_some, Option.some.injEq] at h
    refine ⟨o, rfl, ?_⟩
    split at h
    · rename_i f args hop
      split at h
      · exact .inr ⟨f, args, hop, h.symm⟩
      · exact .inl h.symm
    · exact .inl h.symm
theorem pcalls_length (P : Program) (cl : List (Nat × Nat)) (l : List AOper) : (pcalls P cl l).length = l.length := by simp [pcalls]

section
variable {P : Program} {F : Fence} {n : Nat} {ρ : Env} {g g' : RT} {a : Act} {h h' : AH} {w : World}

/-- a list of operations that stands for a region's -/
structure Stands (P : Program) (n : Nat) (ops : Array Oper) (L : List AOper) : Prop where
  len : L.length = ops.size
  comp : ∀ (i : Nat) (o : Oper) (ao : AOper), ops[i]? = some o → L[i]? = some ao → CompAs P n ops o ao
  free : ∀ (i j : Nat) (oi oj : AOper), i < j → L[i]? = some oi → L[j]? = some oj → ((Region.before ops).getD j 0).testBit i = false → freeOf oi oj = true ∧ freeOf oj oi = true

theorem stands_plain {ops : Array Oper} (hreg : regsOk (ops.toList.map (compOper P n ops)) (Region.before ops) = true) : Stands P n ops (ops.toList.map (compOper P n ops)) := by
  refine ⟨by simp, fun i o ao ho hao => ?_, fun i j oi oj hij hi hj hb => freeOf_of hreg hi hj hij hb⟩
  rw [List.getElem?_map, Array.getElem?_toList, ho] at hao
  simp only [Option.map_some, Option.some.injEq] at hao
  exact .inl hao.symm
theorem stands_pcalls {ops : Array Oper} {L : List AOper} {cl : List (Nat × Nat)} (h : Stands P n ops L) (hp : ∀ (i : Nat) (o : Oper) (ao : AOper), ops[i]? = some o → L[i]? = some ao → ao = compOper P n ops o) : Stands P n ops (pcalls P cl L) := by
  have hsame : ∀ {o ao : AOper}, (ao = o ∨ ∃ f args, o.op = .call f args ∧ ao = { o with op := .pcall f args }) → ao.dst = o.dst ∧ ao.rd = o.rd := fun {o ao} q => by
    rcases q with rfl | ⟨f, args, h1, rfl⟩
    · exact ⟨rfl, rfl⟩
    · refine ⟨rfl, ?_⟩
      unfold AOper.rd
      dsimp only
      rw [h1]
      rfl
  refine ⟨by rw [pcalls_length]; exact h.len, fun i o ao ho hao => ?_, fun i j oi oj hij hi hj hb => ?_⟩
  · obtain ⟨o', h1, h2⟩ := pcalls_get hao
    have e := hp i o o' ho h1
    subst e
    rcases h2 with rfl | ⟨f, args, h2, rfl⟩
    · exact .inl rfl
    · exact .inr ⟨f, args, h2, rfl⟩
  · obtain ⟨o1, p1, p2⟩ := pcalls_get hi
    obtain ⟨o2, q1, q2⟩ := pcalls_get hj
    have s1 := hsame p2
    have s2 := hsame q2
    rw [freeOf_congr s1.1 s1.2 s2.1 s2.2, freeOf_congr s2.1 s2.2 s1.1 s1.2]
    exact h.free i j o1 o2 hij p1 q1 hb

theorem stands_ops (hF : WideF F) {m : Nat} {H : CallH} (hH : HSound P H) (hh : HGrow H) {Y : YH} (hy : YGrow Y) (hY : YSound P ρ Y) (hf : FRel n ρ g a) (hr : HRel ρ h w) (hfr : Fresh ρ h h') {ops : Array Oper} {id : Nat} {Q : Exit → Act → World → Prop}
    (hmix : P.follows .mixedOrders = true) (hed : edgesOk ops = true) {L : List AOper} (hs : Stands P n ops L) (hcl : (clashes (L.map (heapUse ·.op)) (Region.before ops)).isEmpty = true) (he : evOps Y H L (g, h) = some (g', h'))
    (hQ : ∀ a' w' ρ', FRel n ρ' g' a' → Trans ρ h w ρ' h' w' → a'.defers = a.defers → Q .normal a' w') : (Code.region id ops true).wpIn F m P Q a w := by
  obtain ⟨acc, he⟩ := ops_multi [] he
  have hget : ∀ {i k : Nat} {ao : AOper}, (L.map fun o => (if heapUse o.op = 0 then 0 else 5, o))[i]? = some (k, ao) → L[i]? = some ao := fun {i k ao} q => by
    rw [List.getElem?_map] at q
    cases ho : L[i]? with
    | none => rw [ho] at q; cases q
    | some o =>
      rw [ho] at q
      simp only [Option.map_some, Option.some.injEq, Prod.mk.injEq] at q
      rw [q.2]
  refine multi_sound hF hH hh hy hY hf hr hfr hmix hed (LM := L.map fun o => (if heapUse o.op = 0 then 0 else 5, o)) (pairs := []) (by simpa using hs.len) (fun i o k ao ho hao => hs.comp i o ao ho (hget hao)) (fun k o hko => ?_)
    (fun i j ki kj oi oj hij hi hj hb => ?_) he rfl hQ
  · obtain ⟨o', _, q⟩ := List.mem_map.1 hko
    injection q with q1 q2
    subst q2
    by_cases hu : heapUse o'.op = 0
    · rw [if_pos hu] at q1; exact .inl (by omega)
    · rw [if_neg hu] at q1; exact .inr ⟨q1.symm, hu⟩
  · obtain ⟨f1, f2⟩ := hs.free i j oi oj hij (hget hi) (hget hj) hb
    refine ⟨f1, f2, ?_⟩
    by_cases h1 : heapUse oi.op = 0
    · exact .inl h1
    by_cases h2 : heapUse oj.op = 0
    · exact .inr (.inl h2)
    by_cases h3 : heapUse oi.op ≤ 1 ∧ heapUse oj.op ≤ 1
    · exact .inr (.inr (.inl h3))
    exfalso
    have := mem_clashes (ks := L.map (heapUse ·.op)) (b := Region.before ops) (by rw [List.getElem?_map, hget hi]; rfl) (by rw [List.getElem?_map, hget hj]; rfl) h1 h2 hij hb (by omega)
    rw [List.isEmpty_iff] at hcl
    rw [hcl] at this
    cases this

theorem stands_multi (hF : WideF F) {m : Nat} {H : CallH} (hH : HSound P H) (hh : HGrow H) {Y : YH} (hy : YGrow Y) (hY : YSound P ρ Y) (hf : FRel n ρ g a) (hr : HRel ρ h w) (hfr : Fresh ρ h h') {ops : Array Oper} {id : Nat} {Q : Exit → Act → World → Prop}
    (hmix : P.follows .mixedOrders = true) (hed : edgesOk ops = true) {L : List AOper} (hs : Stands P n ops L) {cl : List (Nat × Nat)} (hcl : clashes (L.map (heapUse ·.op)) (Region.before ops) = cl) {acc : List (List Rng × List Rng)}
    (he : evMulti Y H (((L.map (heapUse ·.op)).zipIdx.map fun (k, i) => if k ≠ 0 && !(cl.any fun (a, c) => a == i || c == i) then 5 else k).zip L) (g, h) [] = some ((g', h'), acc)) (hp : pairsOk acc cl = true)
    (hQ : ∀ a' w' ρ', FRel n ρ' g' a' → Trans ρ h w ρ' h' w' → a'.defers = a.defers → Q .normal a' w') : (Code.region id ops true).wpIn F m P Q a w := by
  let ks : List Nat := (L.map (heapUse ·.op)).zipIdx.map fun (k, i) => if k ≠ 0 && !(cl.any fun (a, c) => a == i || c == i) then 5 else k
  have hget : ∀ {i k : Nat} {ao : AOper}, (ks.zip L)[i]? = some (k, ao) → L[i]? = some ao ∧ (k = heapUse ao.op ∨ (k = 5 ∧ heapUse ao.op ≠ 0 ∧ ∀ x y, (x, y) ∈ cl → x ≠ i ∧ y ≠ i)) := fun {i k ao} q => by
    rw [List.getElem?_zip_eq_some] at q
    obtain ⟨q1, q2⟩ := q
    refine ⟨q2, ?_⟩
    simp only [ks, List.getElem?_map, List.getElem?_zipIdx, q2, Option.map_some, Option.some.injEq, Nat.zero_add] at q1
    split at q1
    · rename_i hc
      simp only [ne_eq, Bool.and_eq_true, decide_eq_true_eq, Bool.not_eq_true', List.any_eq_false, Bool.or_eq_true, beq_iff_eq, not_or, decide_not, Bool.not_eq_true', decide_eq_false_iff_not] at hc
      exact .inr ⟨q1.symm, hc.1, fun x y hxy => hc.2 (x, y) hxy⟩
    · exact .inl q1.symm
  refine multi_sound hF hH hh hy hY hf hr hfr hmix hed (LM := ks.zip L) (pairs := cl) (by simp [ks, hs.len]) (fun i o k ao ho hao => hs.comp i o ao ho (hget hao).1) (fun k o hko => ?_)
    (fun i j ki kj oi oj hij hi hj hb => ?_) he hp hQ
  · obtain ⟨i, hi, q⟩ := List.mem_iff_getElem.1 hko
    rcases (hget (i := i) (by rw [List.getElem?_eq_getElem hi, q])).2 with q | ⟨q1, q2, _⟩
    · exact .inl q
    · exact .inr ⟨q1, q2⟩
  · obtain ⟨gi, ki'⟩ := hget hi
    obtain ⟨gj, kj'⟩ := hget hj
    obtain ⟨f1, f2⟩ := hs.free i j oi oj hij gi gj hb
    refine ⟨f1, f2, ?_⟩
    by_cases h1 : heapUse oi.op = 0
    · exact .inl h1
    by_cases h2 : heapUse oj.op = 0
    · exact .inr (.inl h2)
    by_cases h3 : heapUse oi.op ≤ 1 ∧ heapUse oj.op ≤ 1
    · exact .inr (.inr (.inl h3))
    have hm := mem_clashes (ks := L.map (heapUse ·.op)) (b := Region.before ops) (by rw [List.getElem?_map, gi]; rfl) (by rw [List.getElem?_map, gj]; rfl) h1 h2 hij hb (by omega)
    rw [hcl] at hm
    have h4 : ∀ o : AOp, heapUse o ≤ 4 := fun o => by unfold heapUse; split <;> omega
    refine .inr (.inr (.inr ⟨hm, ?_, ?_⟩))
    · rcases ki' with q | ⟨_, _, q⟩
      · have := h4 oi.op; omega
      · exact absurd rfl (q _ _ hm).1
    · rcases kj' with q | ⟨_, _, q⟩
      · have := h4 oj.op; omega
      · exact absurd rfl (q _ _ hm).2

/-- a region -/
theorem region_sound (hF : WideF F) {m : Nat} {H : CallH} (hH : HSound P H) (hh : HGrow H) {Y : YH} (hy : YGrow Y) (hY : YSound P ρ Y) (hf : FRel n ρ g a) (hr : HRel ρ h w) (hfr : Fresh ρ h h') {ops : Array Oper} {id : Nat} {draw : Bool} {Q : Exit → Act → World → Prop}
    (hmix : P.follows .mixedOrders = true) {lf : Nat} {rd : Bool} {x : AX} (he : evCode H lf rd Y (compRegion P n ops draw) (g, h) = some (x, (g', h')))
    (hQ : ∀ a' w' ρ', FRel n ρ' g' a' → Trans ρ h w ρ' h' w' → a'.defers = a.defers → Q .normal a' w') : x = .normal ∧ (Code.region id ops draw).wpIn F m P Q a w := by
  have hops : ∀ {l : List AOper}, evCode H lf rd Y (.ops l) (g, h) = some (x, (g', h')) → x = .normal ∧ evOps Y H l (g, h) = some (g', h') := fun {l} q => by
    simp only [evCode] at q
    obtain ⟨s, q1, q2⟩ := opt_some.1 q
    injection q2 with q2
    injection q2 with q2 q3
    subst q3
    exact ⟨q2.symm, q1⟩
  unfold compRegion at he
  dsimp only at he
  cases draw with
  | false =>
    rw [if_pos (show (!false) = true from rfl)] at he
    obtain ⟨hx, he⟩ := hops he
    exact ⟨hx, wpIn_region (ops_sound hF hH hh hy _ _ (range_ops ops (compOper P n ops)).symm hY hf hr hfr he hQ)⟩
  | true =>
    rw [if_neg (show ¬ (!true) = true by simp)] at he
    split at he
    · cases he
    · rename_i hchk
      simp only [Bool.or_eq_true, Bool.not_eq_true', not_or, Bool.not_eq_false] at hchk
      have hs := stands_plain (P := P) (n := n) hchk.1
      split at he
      · rename_i hcl
        obtain ⟨hx, he⟩ := hops he
        exact ⟨hx, stands_ops hF hH hh hy hY hf hr hfr hmix hchk.2 hs hcl he hQ⟩
      · have hs' : Stands P n ops (pcalls P (clashes ((ops.toList.map (compOper P n ops)).map (heapUse ·.op)) (Region.before ops)) (ops.toList.map (compOper P n ops))) := stands_pcalls hs fun i o ao ho hao => by
          rw [List.getElem?_map, Array.getElem?_toList, ho] at hao
          simp only [Option.map_some, Option.some.injEq] at hao
          exact hao.symm
        split at he
        · rename_i hcl
          obtain ⟨hx, he⟩ := hops he
          exact ⟨hx, stands_ops hF hH hh hy hY hf hr hfr hmix hchk.2 hs' hcl he hQ⟩
        · simp only [evCode] at he
          obtain ⟨⟨s, acc⟩, q1, q2⟩ := opt_some.1 he
          dsimp only at q2
          split at q2
          · rename_i hp
            injection q2 with q2
            injection q2 with q2 q3
            subst q3
            exact ⟨q2.symm, stands_multi hF hH hh hy hY hf hr hfr hmix hchk.2 hs' rfl q1 hp hQ⟩
          · cases q2
end
end Go.Am
