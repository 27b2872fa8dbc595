/- Codes. -/
import Derived.Test.YtiakcbnmagpabaaGreatDoorA3
import Derived.ChangeSame
namespace Go.Am

def AX.toEx : AX → Exit
  | .normal => .normal
  | .exit id => .exit id
  | .ret => .ret

def marksDen (ρ : Env) : List Nat → Option (List Deferred)
  | [] => some []
  | d :: l => match ρ d, marksDen ρ l with
    | some r, some ds => some ({ target := .collected r.block, args := #[] } :: ds)
    | _, _ => none
theorem marksDen_mono {ρ ρ' : Env} (le : ρ.le ρ') : ∀ {l : List Nat} {ds : List Deferred}, marksDen ρ l = some ds → marksDen ρ' l = some ds
  | [], _, h => h
  | d :: l, ds, h => by
    simp only [marksDen] at h ⊢
    split at h
    · rename_i h1 h2
      rw [le _ _ h1, marksDen_mono le h2]
      exact h
    · cases h

section
variable {ρ ρ' : Env} {h h' h1 : AH} {w w' : World}
theorem Trans.marks {l m : List Nat} (t : Trans ρ { h with marks := l } w ρ' h' w') : Trans ρ h w ρ' { h' with marks := m } w' :=
  ⟨t.le, t.new, t.next, t.floor, t.rel.congr (fun _ => rfl) rfl (fun _ q _ => q), t.size, t.keep, t.own', t.dom, t.alike⟩
theorem HRel.marks {l : List Nat} (r : HRel ρ h w) : HRel ρ { h with marks := l } w := r.congr (fun _ => rfl) rfl (fun _ q _ => q)
theorem Fresh.after (f : Fresh ρ h h') (t : Trans ρ h w ρ' h1 w') : Fresh ρ' h1 h' := fun id p q => by
  rw [t.new id (fun r => Nat.not_lt.2 p r.2)]
  exact f id (Nat.le_trans t.next p) q
theorem Fresh.upto (f : Fresh ρ h h') (e : h1.next ≤ h'.next) : Fresh ρ h h1 := fun id p q => f id p (Nat.lt_of_lt_of_le q e)
theorem HRel.bd (r : HRel ρ h w) : h.bd := fun i hi => by
  cases hg : h.get i with
  | none => rfl
  | some o => exact absurd (r.bound i o hg) (Nat.not_lt.2 hi)
end

theorem WideF.inR {F : Fence} (h : WideF F) (l : Nat) : WideF (F.inRound l) := h

section
variable {P : Program} {n : Nat} {H : CallH} {lf : Nat}

def CodeOk (P : Program) (n : Nat) (H : CallH) (lf : Nat) (c : Code) : Prop :=
  ∀ (rd : Bool) (F : Fence), WideF F → (rd = false → F.round = none) → ∀ (m : Nat) (Y : YH) (ρ : Env) (g : RT) (a : Act) (h : AH) (w : World) (x : AX) (g' : RT) (h' : AH) (Q : Exit → Act → World → Prop),
    YGrow Y → YSound P ρ Y → FRel n ρ g a → HRel ρ h w → Fresh ρ h h' → marksDen ρ h.marks = some a.defers → evCode H lf rd Y (comp P n c) (g, h) = some (x, (g', h')) →
    (∀ a' w' ρ', FRel n ρ' g' a' → Trans ρ h w ρ' h' w' → marksDen ρ' h'.marks = some a'.defers → Q x.toEx a' w') → c.wpIn F m P Q a w

theorem then_exit {x : AX} {K : Act → World → Prop} {Q : Exit → Act → World → Prop} {a : Act} {w : World} (h1 : x = .normal → K a w) (h2 : x ≠ .normal → Q x.toEx a w) : Exit.then K Q x.toEx a w := by
  cases x with
  | normal => exact h1 rfl
  | exit id => exact h2 (by simp)
  | ret => exact h2 (by simp)

theorem CodeOk.seq (hh : HGrow H) {c d : Code} (hc : CodeOk P n H lf c) (hd : CodeOk P n H lf d) : CodeOk P n H lf (.seq c d) := by
  intro rd F hF hrd m Y ρ g a h w x g' h' Q hy hY hf hr hfr hm he hQ
  simp only [comp, evCode] at he
  refine wpIn_seq ?_
  split at he
  · rename_i s1 e1
    obtain ⟨g1, h1⟩ := s1
    have gr := evCode_grow hh lf _ rd hy he
    exact hc rd F hF hrd m Y ρ g a h w .normal g1 h1 _ hy hY hf hr (hfr.upto gr.1) hm e1 fun a1 w1 ρ1 hf1 ht1 hm1 =>
      hd rd F hF hrd m Y ρ1 g1 a1 h1 w1 x g' h' Q hy (hY.mono ht1.le) hf1 ht1.rel (hfr.after ht1) hm1 he fun a2 w2 ρ2 hf2 ht2 hm2 => hQ a2 w2 ρ2 hf2 (ht1.trans ht2) hm2
  · rename_i hne
    refine hc rd F hF hrd m Y ρ g a h w x g' h' _ hy hY hf hr hfr hm he fun a1 w1 ρ1 hf1 ht1 hm1 => then_exit (fun e => ?_) fun _ => hQ a1 w1 ρ1 hf1 ht1 hm1
    rw [e] at he
    exact absurd he (hne _)

theorem CodeOk.cond {o : Operand} {c d : Code} (hc : CodeOk P n H lf c) (hd : CodeOk P n H lf d) : CodeOk P n H lf (.cond o c d) := by
  intro rd F hF hrd m Y ρ g a h w x g' h' Q hy hY hf hr hfr hm he hQ
  simp only [comp] at he
  split at he
  · rename_i o' ho
    have hden := opd_den hf ho
    simp only [evCode] at he
    split at he
    · rename_i hb
      rw [hb] at hden
      exact wpIn_cond_true (Option.some.inj hden).symm (hc rd F hF hrd m Y ρ g a h w x g' h' Q hy hY hf hr hfr hm he hQ)
    · rename_i hb
      rw [hb] at hden
      exact wpIn_cond_false (Option.some.inj hden).symm (hd rd F hF hrd m Y ρ g a h w x g' h' Q hy hY hf hr hfr hm he hQ)
    · cases he
  · cases he

theorem CodeOk.block {id : Nat} {c : Code} (hc : CodeOk P n H lf c) : CodeOk P n H lf (.block id c) := by
  intro rd F hF hrd m Y ρ g a h w x g' h' Q hy hY hf hr hfr hm he hQ
  simp only [comp, evCode] at he
  refine wpIn_block ?_
  split at he
  · rename_i i s1 e1
    obtain ⟨g1, h1⟩ := s1
    split at he
    · rename_i hi
      injection he with he
      injection he with e2 e3
      injection e3 with e3 e4
      subst e2 e3 e4
      refine hc rd F hF hrd m Y ρ g a h w (.exit i) g1 h1 _ hy hY hf hr hfr hm e1 fun a1 w1 ρ1 hf1 ht1 hm1 => ?_
      show Exit.inBlock id Q (.exit i) a1 w1
      simp only [Exit.inBlock]
      rw [if_pos hi]
      exact hQ a1 w1 ρ1 hf1 ht1 hm1
    · rename_i hi
      injection he with he
      injection he with e2 e3
      injection e3 with e3 e4
      subst e2 e3 e4
      refine hc rd F hF hrd m Y ρ g a h w (.exit i) g1 h1 _ hy hY hf hr hfr hm e1 fun a1 w1 ρ1 hf1 ht1 hm1 => ?_
      show Exit.inBlock id Q (.exit i) a1 w1
      simp only [Exit.inBlock]
      rw [if_neg hi]
      exact hQ a1 w1 ρ1 hf1 ht1 hm1
  · rename_i hne
    refine hc rd F hF hrd m Y ρ g a h w x g' h' _ hy hY hf hr hfr hm he fun a1 w1 ρ1 hf1 ht1 hm1 => ?_
    cases x with
    | exit i => exact absurd he (hne _ _)
    | normal => exact hQ a1 w1 ρ1 hf1 ht1 hm1
    | ret => exact hQ a1 w1 ρ1 hf1 ht1 hm1

theorem CodeOk.loop (hh : HGrow H) {c : Code} (hc : CodeOk P n H lf c) : CodeOk P n H lf (.loop c) := by
  intro rd F hF hrd m Y ρ g a h w x g' h' Q hy hY hf hr hfr hm he hQ
  simp only [comp, evCode] at he
  refine wpIn_loop_count (k := lf) (fun k a1 w1 => ∃ ρ1 g1 h1, FRel n ρ1 g1 a1 ∧ Trans ρ h w ρ1 h1 w1 ∧ marksDen ρ1 h1.marks = some a1.defers ∧ iter (evCode H lf rd Y (comp P n c)) k (g1, h1) = some (x, (g', h')))
    ⟨ρ, g, h, hf, .refl hr, hm, he⟩ fun k a1 w1 => ?_
  rintro ⟨ρ1, g1, h1, hf1, ht1, hm1, he1⟩
  cases k with
  | zero => cases he1
  | succ k =>
    unfold iter at he1
    split at he1
    · rename_i s2 e2
      obtain ⟨g2, h2⟩ := s2
      have gr := iter_grow (fun s x s' e => evCode_grow hh lf _ rd hy e) he1
      exact hc rd F hF hrd m Y ρ1 g1 a1 h1 w1 .normal g2 h2 _ hy (hY.mono ht1.le) hf1 ht1.rel ((hfr.after ht1).upto gr.1) hm1 e2 fun a2 w2 ρ2 hf2 ht2 hm2 =>
        ⟨k, Nat.lt_succ_self k, ρ2, g2, h2, hf2, ht1.trans ht2, hm2, he1⟩
    · rename_i hne
      refine hc rd F hF hrd m Y ρ1 g1 a1 h1 w1 x g' h' _ hy (hY.mono ht1.le) hf1 ht1.rel (hfr.after ht1) hm1 he1 fun a2 w2 ρ2 hf2 ht2 hm2 => then_exit (fun e => ?_) fun _ => hQ a2 w2 ρ2 hf2 (ht1.trans ht2) hm2
      rw [e] at he1
      exact absurd he1 (hne _)

theorem setAll_rel {ρ : Env} : ∀ {ps : List Nat} {args : List AV} {xs : List Value} {g g1 : RT} {a : Act}, setAll ps args g = some g1 → (∀ p, p ∈ ps → p < n) → denL ρ args = some xs → RRel n ρ g a →
    ps.length = xs.length ∧ RRel n ρ g1 { a with tmps := (ps.zip xs).foldl (fun t (p : Nat × Value) => t.setIfInBounds p.1 p.2) a.tmps }
  | [], [], xs, g, g1, a, he, _, hd, hr => by
    injection he with he
    subst he
    rw [denL_nil.1 hd]
    exact ⟨rfl, hr⟩
  | p :: ps, v :: args, xs, g, g1, a, he, hp, hd, hr => by
    simp only [setAll] at he
    obtain ⟨y, ys, d1, d2, rfl⟩ := denL_cons.1 hd
    have hlt := hp p (List.mem_cons_self ..)
    have hr1 : RRel n ρ (g.seti p v) (a.put (some p) y) := by
      have := hr.put d1 (some p)
      simp only [compDst, hlt, if_true, setDst] at this
      exact this
    obtain ⟨q1, q2⟩ := setAll_rel he (fun p' h => hp p' (List.mem_cons_of_mem _ h)) d2 hr1
    exact ⟨by simp [q1], q2⟩
  | [], _ :: _, _, _, _, _, he, _, _, _ => by cases he
  | _ :: _, [], _, _, _, _, he, _, _, _ => by cases he

/-- the round of a loop over a function -/
def roundV (H : CallH) (lf : Nat) (Y : YH) (l : Nat) (ps : List Nat) (assign body : AC) (g : RT) : List AV → AH → Option (AV × AH) := fun args h =>
  match h.get l with
  | some (.loop .ready _) =>
    opt (setAll ps args g) fun g =>
    match evCode H lf true Y assign (g, { h with marks := [] }) with
    | some (.normal, (g, h')) =>
      match h'.get l with
      | some (.loop .ready p) =>
        opt (h'.put l (some (.loop .busy p))) fun h' =>
        opt (evCode H lf true Y body (g, h')) fun (x, (_, h')) =>
        if h'.marks.isEmpty then opt (endRound l x h') fun (v, h') => some (v, { h' with marks := h.marks }) else none
      | _ => none
    | _ => none
  | _ => none

theorem HRel.loop {ρ : Env} {h : AH} {w : World} {l : Nat} {st : LS} {p : Option AX} {r : Row} (hr : HRel ρ h w) (hg : h.get l = some (.loop st p)) (hl : ρ l = some r) :
    w.heap[r.block]? = some (.loop { r.loop with state := st.den, pending := p.map AX.code }) := by
  obtain ⟨r', h1, h2⟩ := hr.obj l _ hg
  rw [hl] at h1
  injection h1 with h1
  subst h1
  exact h2

/-- the record of a loop changes -/
theorem put_loop {ρ : Env} {h h' : AH} {w : World} {l : Nat} {st st' : LS} {p p' : Option AX} {r : Row} (hr : HRel ρ h w) (hg : h.get l = some (.loop st p)) (hl : ρ l = some r) (he : h.put l (some (.loop st' p')) = some h') :
    Trans ρ h w ρ h' (w.putObj r.block (.loop { r.loop with state := st'.den, pending := p'.map AX.code })) := by
  obtain ⟨hfl, rfl⟩ := put_some he
  have hb := hr.loop hg hl
  have hlt : r.block < w.heap.size := (Array.getElem?_eq_some_iff.1 hb).1
  refine Trans.put hr hg hl ⟨hfl, rfl⟩ (by simp) (fun b hb => World.putObj_heap_other hb) ⟨rfl, rfl, rfl⟩ ?_
  rintro o' ⟨rfl⟩
  exact ⟨World.putObj_heap_same hlt, rfl⟩

theorem round_sound (hh : HGrow H) {as body : Code} (ha : CodeOk P n H lf as) (hb : CodeOk P n H lf body) {Y : YH} (hy : YGrow Y) {ρ : Env} (hY : YSound P ρ Y) {g : RT} {a : Act} (hf : FRel n ρ g a) {l : Nat} {r : Row} (hl : ρ l = some r)
    {ps : Array Tmp} (hps : ∀ p, p ∈ ps.toList → p < n) (h1 : r.loop.tmps = a.tmps) (h2 : r.loop.params = ps) (h3 : r.loop.assign = as) (h4 : r.loop.body = body) :
    ∀ ρ', ρ.le ρ' → ∀ args h v h' w xs, roundV H lf Y l ps.toList (comp P n as) (comp P n body) g args h = some (v, h') → denL ρ' args = some xs → HRel ρ' h w → GlobOk ρ' → Fresh ρ' h h' →
    ∀ R : Ending → World → Prop, (∀ x w' ρ'', v.den ρ'' = some x → Trans ρ' h w ρ'' h' w' → R (.returned x) w') → Yields' P r.block xs w R := by
  intro ρ' hle args h v h' w xs he hd hr hglob hfr R hR
  have hl' := hle _ _ hl
  unfold roundV at he
  split at he
  · rename_i p0 hlo
    obtain ⟨g1, e1, he⟩ := opt_some.1 he
    split at he
    · rename_i g2 k2 e2
      split at he
      · rename_i p2 e3
        obtain ⟨k3, e4, he⟩ := opt_some.1 he
        obtain ⟨⟨x, ⟨g4, k4⟩⟩, e5, he⟩ := opt_some.1 he
        dsimp only at he
        split at he
        · rename_i hmk
          obtain ⟨⟨v6, k6⟩, e7, he⟩ := opt_some.1 he
          injection he with z0
          injection z0 with z1 z2
          subst z1
          subst z2
          obtain ⟨o6, e8⟩ := endRound_put e7
          have n2 : k3.next = k2.next := (put_next e4).1
          have n3 : k3.next ≤ k4.next := (evCode_grow hh lf _ true hy e5).1
          have n4 : k6.next = k4.next := (put_next e8).1
          have hq := hr.loop hlo hl'
          obtain ⟨s1, s2⟩ := setAll_rel (a := { a with defers := [] }) e1 hps hd ⟨fun i => (hf.mono hle).reg i, hf.size⟩
          have hsz : xs.toArray.size = r.loop.params.size := by rw [h2]; simpa using s1.symm
          refine ⟨_, _, _, _, _, run_yield hq hsz, fun F m hF => roundIn_of_wpIn (hF.1 _) ?_⟩
          have htm : (r.loop.params.zip xs.toArray).foldl (fun tmps (t, a) => tmps.setIfInBounds t a) r.loop.tmps = (ps.toList.zip xs).foldl (fun t (p : Nat × Value) => t.setIfInBounds p.1 p.2) a.tmps := by
            rw [h1, h2, ← Array.foldl_toList, Array.toList_zip]
          dsimp only
          rw [htm, h3, h4]
          have hfresh1 : Fresh ρ' { h with marks := [] } k2 := hfr.upto (by show k2.next ≤ k6.next; omega)
          refine ha true (F.inRound r.block) (hF.inR _) (fun e => by cases e) _ Y ρ' g1 _ { h with marks := [] } w .normal g2 k2 _ hy (hY.mono hle) ⟨s2, hglob⟩ hr.marks hfresh1 rfl e2 fun a1 w1 ρ1 hf1 ht1 hm1 => ?_
          have hl1 := ht1.le _ _ hl'
          have hq1 := ht1.rel.loop e3 hl1
          refine ⟨_, run_beginRound hq1 rfl, ?_⟩
          have ht2 := put_loop (st' := .busy) (p' := p2) ht1.rel e3 hl1 e4
          have hm2 : k3.marks = k2.marks := (put_next e4).2.2.1
          have hfresh2 : Fresh ρ1 k3 k4 := by
            have : Fresh ρ1 k2 k6 := Fresh.after (h := { h with marks := [] }) (h' := k6) hfr ht1
            have := this.after ht2
            exact this.upto (by omega)
          refine hb true (F.inRound r.block) (hF.inR _) (fun e => by cases e) _ Y ρ1 g2 a1 k3 _ x g4 k4 _ hy (hY.mono (Env.le_trans hle ht1.le)) hf1 ht2.rel hfresh2 (by rw [hm2]; exact hm1) e5 fun a4 w4 ρ4 hf4 ht4 hm4 => ?_
          have hl4 := ht4.le _ _ hl1
          unfold endRound at e7
          split at e7
          · rename_i st5 p5 e9
            have hq4 := ht4.rel.loop e9 hl4
            have hfin : ∀ {k6 : AH} {w5 : World}, Trans ρ4 k4 w4 ρ4 k6 w5 → Trans ρ' h w ρ4 { k6 with marks := h.marks } w5 := fun {k6 w5} t5 => Trans.marks (((ht1.trans ht2).trans ht4).trans t5)
            split at e7
            · obtain ⟨k7, e10, e11⟩ := opt_some.1 e7
              injection e11 with z0
              injection z0 with z1 z2
              subst z1
              subst z2
              refine ⟨_, _, run_endRound none hq4, hR _ _ ρ4 rfl (hfin ?_)⟩
              exact put_loop ht4.rel e9 hl4 e10
            · rename_i x' hx'
              obtain ⟨k7, e10, e11⟩ := opt_some.1 e7
              injection e11 with z0
              injection z0 with z1 z2
              subst z1
              subst z2
              cases x with
              | normal => exact absurd rfl hx'
              | exit id =>
                refine ⟨_, _, run_endRound (some (.exit id)) hq4, hR _ _ ρ4 rfl (hfin ?_)⟩
                exact put_loop ht4.rel e9 hl4 e10
              | ret =>
                refine ⟨_, _, run_endRound (some .ret) hq4, hR _ _ ρ4 rfl (hfin ?_)⟩
                exact put_loop ht4.rel e9 hl4 e10
          · cases e7
        · cases he
      · cases he
    · cases he
  · cases he

theorem roundV_grow (hh : HGrow H) {Y : YH} (hy : YGrow Y) {l : Nat} {ps : List Nat} {as body : AC} {g : RT} {args : List AV} {h h' : AH} {v : AV} (he : roundV H lf Y l ps as body g args h = some (v, h')) : Grow h h' := by
  unfold roundV at he
  split at he
  · rename_i p0 hlo
    obtain ⟨g1, e1, he⟩ := opt_some.1 he
    split at he
    · rename_i g2 k2 e2
      split at he
      · rename_i p2 e3
        obtain ⟨k3, e4, he⟩ := opt_some.1 he
        obtain ⟨⟨x, ⟨g4, k4⟩⟩, e5, he⟩ := opt_some.1 he
        dsimp only at he
        split at he
        · obtain ⟨⟨v6, k6⟩, e7, he⟩ := opt_some.1 he
          injection he with z0
          injection z0 with z1 z2
          subst z1
          subst z2
          obtain ⟨o6, e8⟩ := endRound_put e7
          have r1 : Grow2 { h with marks := [] } k2 := evCode_grow hh lf _ true hy e2
          have r2 := put_next e4
          have r3 : Grow2 k3 k4 := evCode_grow hh lf _ true hy e5
          have r4 := put_next e8
          have n1 : h.next ≤ k2.next := r1.1
          have n2 : k3.next = k2.next := r2.1
          have n3 : k3.next ≤ k4.next := r3.1
          have n4 : k6.next = k4.next := r4.1
          have f1 : k2.floor = h.floor := r1.2.1
          have f2 : k3.floor = k2.floor := r2.2.1
          have f3 : k4.floor = k3.floor := r3.2.1
          have f4 : k6.floor = k4.floor := r4.2.1
          refine ⟨(by show h.next ≤ k6.next; omega), (by show k6.floor = h.floor; omega), rfl, fun id hf hn => ?_, fun hb => ?_⟩
          · exact (r4.2.2.2.1 id (by omega)).trans ((r3.2.2.1 id (by omega) (by omega)).trans ((r2.2.2.2.1 id (by omega)).trans (r1.2.2.1 id hf hn)))
          · have hl := hb.lt hlo
            exact r4.2.2.2.2 (by omega) (r3.2.2.2 (r2.2.2.2.2 (by omega) (r1.2.2.2 hb)))
        · cases he
      · cases he
    · cases he
  · cases he

def pendEx : Option AX → AX
  | none => .normal
  | some y => y

theorem CodeOk.rfun (hH : HSound P H) (hh : HGrow H) {o : Operand} {ps : Array Tmp} {as body : Code} (ha : CodeOk P n H lf as) (hb : CodeOk P n H lf body) : CodeOk P n H lf (.rangeFunc o ps as body) := by
  intro rd F hF hrd m Y ρ g a h w x g' h' Q hy hY hf hr hfr hm he hQ
  simp only [comp] at he
  split at he
  · rename_i o' ho
    split at he
    · rename_i hps
      have hden := opd_den hf ho
      simp only [evCode] at he
      split at he
      · cases he
      · rename_i hrd'
        have hround := hrd (by simpa using hrd')
        split at he
        · rename_i k first captured hfu
          obtain ⟨⟨u, h3⟩, e1, e2⟩ := opt_some.1 he
          dsimp only at e2
          split at e2
          · rename_i st p hlo
            split at e2
            · cases e2
            · rename_i hbusy
              obtain ⟨h4, e3, e4⟩ := opt_some.1 e2
              rw [hfu] at hden
              obtain ⟨fn', xs, ys, q1, q2, q3, q4⟩ := den_func.1 hden
              simp only [fnDen, Option.some.injEq] at q1
              subst q1
              have hh' : h' = { h4 with marks := h.next :: h4.marks } := by
                split at e4 <;> (injection e4 with e4; injection e4 with _ e4; injection e4 with _ e4; exact e4.symm)
              have hg' : g = g' := by
                split at e4 <;> (injection e4 with e4; injection e4 with _ e4; injection e4 with e4 _)
              have hx : x = pendEx p := by
                split at e4 <;> (injection e4 with e4; injection e4 with e4 _; exact e4.symm)
              -- the heap grows
              have hYg : YGrow (fun i => if i = (h.new (.dfr false)).2.next then some (roundV H lf Y (h.new (.dfr false)).2.next ps.toList (comp P n as) (comp P n body) g) else Y i) := by
                intro id fy args h v h' hid hfy
                dsimp only at hid
                split at hid
                · injection hid with hid
                  subst hid
                  exact roundV_grow hh hy hfy
                · exact hy _ _ _ _ _ _ hid hfy
              have gr := hh _ hYg _ _ _ _ _ e1
              have hnx : h.next + 2 ≤ h3.next := gr.1
              have h43 := put_next e3
              have hn4 : h4.next = h3.next := h43.1
              have hmk : h4.marks = h.marks := h43.2.2.1.trans gr.2.2.1
              subst hh' hg'
              refine wpIn_rangeFunc fun fn _ => ?_
              -- the two new blocks
              have f0 : ρ h.next = none := hfr h.next (Nat.le_refl _) (by show h.next < h4.next; omega)
              let rD : Row := { block := w.heap.size, off := 0, cap := 0, loop := default }
              have t1 : Trans ρ h w (ρ.set h.next rD) (h.new (.dfr false)).2 (w.alloc (.deferred (some []))) := by
                refine Trans.alloc hr f0 rfl (Array.size_push _) (fun b hb => ?_) ⟨rfl, rfl, rfl⟩ (World.alloc_heap_new w _)
                show (w.heap.push _)[b]? = _
                rw [Array.getElem?_push, if_neg (by omega)]
              let lp : Loop := { state := .ready, pending := none, fn, tmps := a.tmps, params := ps, assign := as, body, defers := w.heap.size }
              let rL : Row := { block := w.heap.size + 1, off := 0, cap := 0, loop := lp }
              have f1 : (ρ.set h.next rD) (h.new (.dfr false)).2.next = none := by
                show (if h.next + 1 = h.next then some rD else ρ (h.next + 1)) = none
                rw [if_neg (by omega)]
                exact hfr (h.next + 1) (Nat.le_succ _) (by show h.next + 1 < h4.next; omega)
              have t2 : Trans (ρ.set h.next rD) (h.new (.dfr false)).2 (w.alloc (.deferred (some []))) ((ρ.set h.next rD).set (h.new (.dfr false)).2.next rL) ((h.new (.dfr false)).2.new (.loop .ready none)).2 ((w.alloc (.deferred (some []))).alloc (.loop lp)) := by
                refine Trans.alloc t1.rel f1 (Array.size_push _).symm (Array.size_push _) (fun b hb => ?_) ⟨rfl, rfl, rfl⟩ ?_
                · show ((w.alloc _).heap.push _)[b]? = _
                  rw [Array.getElem?_push, if_neg (by omega)]
                · have := World.alloc_heap_new (w.alloc (.deferred (some []))) (.loop lp)
                  have e : (w.alloc (.deferred (some []))).heap.size = w.heap.size + 1 := Array.size_push _
                  rw [e] at this
                  exact this
              generalize hρ2 : (ρ.set h.next rD).set (h.new (.dfr false)).2.next rL = ρ2 at t2
              have hL : ρ2 (h.new (.dfr false)).2.next = some rL := by rw [← hρ2]; exact Env.set_same _ _ _
              have hD : ρ2 h.next = some rD := t2.le _ _ (Env.set_same _ _ _)
              have hYs : YSound P ρ2 (fun i => if i = (h.new (.dfr false)).2.next then some (roundV H lf Y (h.new (.dfr false)).2.next ps.toList (comp P n as) (comp P n body) g) else Y i) := by
                intro id fy hid
                dsimp only at hid
                split at hid
                · rename_i e
                  injection hid with hid
                  subst hid e
                  exact ⟨rL, hL, round_sound hh ha hb hy (hY.mono (Env.le_trans t1.le t2.le)) (hf.mono (Env.le_trans t1.le t2.le)) hL (fun p hp => by simpa using List.all_eq_true.1 hps p hp) rfl rfl rfl rfl⟩
                · exact (hY.mono (Env.le_trans t1.le t2.le)) id fy hid
              have hfr2 : Fresh ρ2 ((h.new (.dfr false)).2.new (.loop .ready none)).2 h3 := ((hfr.after t1).after t2).upto (by show h3.next ≤ h4.next; omega)
              have hden2 : denL ρ2 (first ++ [.func (.yield (h.new (.dfr false)).2.next) [] []] ++ captured) = some (xs ++ [.func (.yield (w.heap.size + 1)) #[] #[]] ++ ys) := by
                refine denL_append.2 ⟨_, _, denL_append.2 ⟨_, _, denL_mono (Env.le_trans t1.le t2.le) _ _ q2, ?_, rfl⟩, denL_mono (Env.le_trans t1.le t2.le) _ _ q3, rfl⟩
                refine denL_cons.2 ⟨_, [], den_func.2 ⟨.yield (w.heap.size + 1), [], [], ?_, rfl, rfl, rfl⟩, rfl, rfl⟩
                simp only [fnDen, hL, Option.map_some]
                rfl
              have hent := hH _ ρ2 hYg hYs _ _ _ _ _ _ _ e1 hden2 t2.rel (hf.glob.mono (Env.le_trans t1.le t2.le)) hfr2 (rangePost F m P (w.heap.size + 1) Q { a with defers := [{ target := .collected w.heap.size, args := #[] }] ++ a.defers }) fun v w3 ρ3 _ ht3 => by
                have hL3 := ht3.le _ _ hL
                have hq3 := ht3.rel.loop hlo hL3
                have t4 := put_loop (st' := .exhausted) (p' := p) ht3.rel hlo hL3 e3
                refine ⟨_, _, run_endLoop hq3 (fun e => hbusy ?_), ?_⟩
                · cases st <;> first | rfl | cases e
                · have hQ' := hQ { a with defers := [{ target := .collected w.heap.size, args := #[] }] ++ a.defers } _ ρ3 ⟨⟨fun i => ((hf.mono (Env.le_trans (Env.le_trans t1.le t2.le) ht3.le)).reg i), hf.size⟩, hf.glob.mono (Env.le_trans (Env.le_trans t1.le t2.le) ht3.le)⟩
                    (Trans.marks (l := h.marks) (((t1.trans t2).trans ht3).trans t4)) (by
                      have hd3 := ht3.le _ _ hD
                      have hm3 := marksDen_mono (Env.le_trans (Env.le_trans t1.le t2.le) ht3.le) hm
                      simp only [marksDen, hd3, hmk, hm3]
                      rfl)
                  subst hx
                  cases p with
                  | none => exact hQ'
                  | some y => cases y with
                    | normal => exact wpIn_skip hQ'
                    | exit id => exact wpIn_exit hQ'
                    | ret => exact wpIn_ret hQ'
              refine ⟨w.heap.size + 1, [{ target := .collected w.heap.size, args := #[] }], (w.alloc (.deferred (some []))).alloc (.loop lp), { target := .fn (.func k) ys.toArray, args := xs.toArray ++ #[Value.func (.yield (w.heap.size + 1)) #[] #[]] }, (w.alloc (.deferred (some []))).alloc (.loop lp), k,
                (xs ++ [Value.func (.yield (w.heap.size + 1)) #[] #[]] ++ ys).toArray, (w.alloc (.deferred (some []))).alloc (.loop lp), ?_, ?_, fun f' _ => hF.1 f', ?_, (fun q => by rw [hF.2.1] at q; cases q), hent.runs F _ hF⟩
              · rw [hround]
                exact run_enterLoop_outer fn a.tmps ps as body
              · show (Deferred.ofValue (a.eval o) (#[Operand.const (Value.func (.yield (w.heap.size + 1)) #[] #[])].map a.eval)).run P _ = _
                rw [q4]
                simp [Deferred.ofValue, Act.eval]
              · show (callFunc k (xs.toArray ++ #[Value.func (.yield (w.heap.size + 1)) #[] #[]] ++ ys.toArray)).run P _ = _
                rw [callFunc_run_congr (xs := xs ++ [Value.func (.yield (w.heap.size + 1)) #[] #[]] ++ ys) (by simp)]
                exact hent.call
          · cases e2
        · cases he
    · cases he
  · cases he

/-- every code -/
theorem code_sound (hmix : P.follows .mixedOrders = true) (hH : HSound P H) (hh : HGrow H) : ∀ c : Code, CodeOk P n H lf c
  | .skip => fun rd F hF hrd m Y ρ g a h w x g' h' Q hy hY hf hr hfr hm he hQ => by
    simp only [comp, evCode, Option.some.injEq, Prod.mk.injEq] at he
    obtain ⟨rfl, rfl, rfl⟩ := he
    exact wpIn_skip (hQ a w ρ hf (.refl hr) hm)
  | .region id ops draw => fun rd F hF hrd m Y ρ g a h w x g' h' Q hy hY hf hr hfr hm he hQ => by
    simp only [comp] at he
    have hmk : x = .normal → h'.marks = h.marks := fun _ => by
      unfold compRegion at he
      have hops : ∀ {l : List AOper}, evCode H lf rd Y (.ops l) (g, h) = some (x, (g', h')) → h'.marks = h.marks := fun {l} q => by
        simp only [evCode] at q
        obtain ⟨s, q1, q2⟩ := opt_some.1 q
        injection q2 with q2
        injection q2 with q2 q3
        subst q3
        exact (evOps_grow hy hh q1).2.2.1
      dsimp only at he
      split at he
      · exact hops he
      · split at he
        · cases he
        · split at he
          · exact hops he
          · split at he
            · exact hops he
            · simp only [evCode] at he
              obtain ⟨⟨s, acc⟩, q1, q2⟩ := opt_some.1 he
              dsimp only at q2
              split at q2
              · injection q2 with q2
                injection q2 with q2 q3
                subst q3
                exact (evMulti_grow hy hh q1).2.2.1
              · cases q2
    have key := fun Q' => region_sound (Q := Q') (id := id) (m := m) hF hH hh hy hY hf hr hfr hmix he
    have hx : x = .normal := (key (fun _ _ _ => True) fun _ _ _ _ _ _ => trivial).1
    subst hx
    exact (key Q fun a' w' ρ' hf' ht hd => hQ a' w' ρ' hf' ht (by rw [hmk rfl, hd]; exact marksDen_mono ht.le hm)).2
  | .seq c d => .seq hh (code_sound hmix hH hh c) (code_sound hmix hH hh d)
  | .cond o c d => .cond (code_sound hmix hH hh c) (code_sound hmix hH hh d)
  | .block id c => .block (code_sound hmix hH hh c)
  | .loop c => .loop hh (code_sound hmix hH hh c)
  | .rangeFunc o ps c d => .rfun hH hh (code_sound hmix hH hh c) (code_sound hmix hH hh d)
  | .exit id => fun rd F hF hrd m Y ρ g a h w x g' h' Q hy hY hf hr hfr hm he hQ => by
    simp only [comp, evCode, Option.some.injEq, Prod.mk.injEq] at he
    obtain ⟨rfl, rfl, rfl⟩ := he
    exact wpIn_exit (hQ a w ρ hf (.refl hr) hm)
  | .scope c => fun rd F hF hrd m Y ρ g a h w x g' h' Q hy hY hf hr hfr hm he hQ => by
    simp only [comp] at he
    refine wpIn_scope (code_sound hmix hH hh c rd F hF hrd m Y ρ g a h w x g' h' _ hy hY hf hr hfr hm he fun a' w' ρ' hf' ht hm' => ?_)
    have := hQ a' w' ρ' hf' ht hm'
    cases x <;> exact this
  | .label l => fun rd F hF hrd m Y ρ g a h w x g' h' Q hy hY hf hr hfr hm he hQ => by
    simp only [comp, evCode, Option.some.injEq, Prod.mk.injEq] at he
    obtain ⟨rfl, rfl, rfl⟩ := he
    exact wpIn_label (hQ a w ρ hf (.refl hr) hm)
  | .goto l => fun rd F hF hrd m Y ρ g a h w x g' h' Q hy hY hf hr hfr hm he hQ => by
    simp only [comp, evCode] at he
    cases he
  | .ret => fun rd F hF hrd m Y ρ g a h w x g' h' Q hy hY hf hr hfr hm he hQ => by
    simp only [comp, evCode, Option.some.injEq, Prod.mk.injEq] at he
    obtain ⟨rfl, rfl, rfl⟩ := he
    exact wpIn_ret (hQ a w ρ hf (.refl hr) hm)
  | .refuse r => fun rd F hF hrd m Y ρ g a h w x g' h' Q hy hY hf hr hfr hm he hQ => by
    simp only [comp, evCode] at he
    cases he
end
end Go.Am

/- Functions: what the abstract machine says of a call is so. -/
namespace Go.Am
section
variable {P : Program}

theorem run_callFunc_body {f : FuncId} {fn : Func} {c : Code} {args : Array Value} {w : World} (hf : P.funcs[f]? = some fn) (hb : fn.body = some c) (hn : fn.name ≠ "runtime.NumGoroutine") :
    (callFunc f args).run P w = .ok (.enter f args) w := by
  unfold callFunc
  simp [hf, hb, hn]

/-- how a result is read -/
def resOf (tmps : Array Value) : ResultVar → Sem Value
  | .tmp t => pure (tmps.getD t Go.undef)
  | .cell a t => do loadVar t (← asAddr (tmps.getD a Go.undef))

theorem compRV_run {n : Nat} {ρ : Env} {g : RT} {a : Act} {h : AH} {w : World} (hf : FRel n ρ g a) (hr : HRel ρ h w) {r : ResultVar} {r' : RV} (hc : compRV P r = some r') {v : AV} (he : evRV g h r' = some v) :
    ∃ x, v.den ρ = some x ∧ (resOf a.tmps r).run P w = .ok x w := by
  cases r with
  | tmp t =>
    simp only [compRV, Option.some.injEq] at hc
    subst hc
    simp only [evRV, Option.some.injEq] at he
    subst he
    exact ⟨_, hf.reg t, rfl⟩
  | cell p t =>
    simp only [compRV] at hc
    obtain ⟨b, h1, hc⟩ := opt_some.1 hc
    obtain ⟨m, h2, hc⟩ := opt_some.1 hc
    injection hc with hc
    subst hc
    simp only [evRV] at he
    have hp := hf.reg p
    split at he
    · rename_i id off hx
      rw [hx, den_ptr] at hp
      obtain ⟨r, hρ, hp⟩ := hp
      cases b with
      | true =>
        rw [if_pos rfl] at he
        obtain ⟨cs, e3, e4⟩ := opt_some.1 he
        injection e4 with e4
        subst e4
        obtain ⟨xs, hz, _, hd⟩ := cellsAt_run P hr e3 hρ
        refine ⟨_, den_agg.2 ⟨xs, hz, rfl⟩, ?_⟩
        simp only [resOf, hp, asAddr, loadVar, Sem.run_bind, Sem.run_pure, Result.andThen_ok, aggT_run h1, if_true, sizeOfT_run h2, hd]
      | false =>
        rw [if_neg (by simp)] at he
        obtain ⟨z, hz, hd⟩ := cell_run P hr he hρ
        refine ⟨z, hz, ?_⟩
        simp only [resOf, hp, asAddr, loadVar, Sem.run_bind, Sem.run_pure, Result.andThen_ok, aggT_run h1, Bool.false_eq_true, if_false, hd]
    · cases he

theorem compRVs_run {n : Nat} {ρ : Env} {g : RT} {a : Act} {h : AH} {w : World} (hf : FRel n ρ g a) (hr : HRel ρ h w) : ∀ {rs : List ResultVar} {rs' : List RV} {vs : List AV}, compRVs P rs = some rs' → evRVs g h rs' = some vs →
    ∃ xs, denL ρ vs = some xs ∧ (rs.mapM (resOf a.tmps)).run P w = .ok xs w
  | [], rs', vs, hc, he => by
    injection hc with hc
    subst hc
    injection he with he
    subst he
    exact ⟨[], rfl, rfl⟩
  | r :: rs, rs', vs, hc, he => by
    simp only [compRVs] at hc
    obtain ⟨r', h1, hc⟩ := opt_some.1 hc
    obtain ⟨l', h2, hc⟩ := opt_some.1 hc
    injection hc with hc
    subst hc
    simp only [evRVs] at he
    obtain ⟨v, e1, he⟩ := opt_some.1 he
    obtain ⟨vs', e2, he⟩ := opt_some.1 he
    injection he with he
    subst he
    obtain ⟨x, d1, r1⟩ := compRV_run hf hr h1 e1
    obtain ⟨xs, d2, r2⟩ := compRVs_run hf hr h2 e2
    refine ⟨x :: xs, denL_cons.2 ⟨x, xs, d1, d2, rfl⟩, ?_⟩
    simp only [List.mapM_cons, Sem.run_bind, r1, r2, Result.andThen_ok, Sem.run_pure]

theorem retV_den {ρ : Env} {vs : List AV} {xs : List Value} (h : denL ρ vs = some xs) : (retV vs).den ρ = some (if h : xs.toArray.size = 1 then xs.toArray[0] else .tuple xs.toArray) := by
  match vs, xs, h with
  | [], xs, h =>
    rw [denL_nil.1 h]
    rfl
  | [v], xs, h =>
    obtain ⟨y, ys, h1, h2, rfl⟩ := denL_cons.1 h
    rw [denL_nil.1 h2]
    simpa [retV] using h1
  | v :: u :: l, xs, h =>
    have hlen := denL_length h
    have h0 := h
    obtain ⟨y, ys, h1, h2, rfl⟩ := denL_cons.1 h
    obtain ⟨z, zs, h3, h4, rfl⟩ := denL_cons.1 h2
    rw [dif_neg (by simp)]
    exact den_tuple.2 ⟨_, h0, rfl⟩

theorem results_run {n : Nat} {ρ : Env} {g : RT} {a : Act} {h : AH} {w : World} (hf : FRel n ρ g a) (hr : HRel ρ h w) {fn : Func} {rs' : List RV} {vs : List AV} (hc : compRVs P fn.results.toList = some rs') (he : evRVs g h rs' = some vs) :
    ∃ x, (retV vs).den ρ = some x ∧ (results fn a.tmps).run P w = .ok x w := by
  obtain ⟨xs, h1, h2⟩ := compRVs_run hf hr hc he
  refine ⟨_, retV_den h1, ?_⟩
  have e : results fn a.tmps = (do let vs ← fn.results.mapM (resOf a.tmps); pure (if h : vs.size = 1 then vs[0] else .tuple vs)) := by
    unfold results
    congr 1
  rw [e, Array.mapM_eq_mapM_toList]
  simp only [Sem.run_bind, map_eq_pure_bind, bind_assoc, pure_bind, h2, Result.andThen_ok, Sem.run_pure]

theorem args_rel {n : Nat} {ρ : Env} : ∀ {args : List AV} {xs : List Value} {i : Nat} {g : RT} {t : Array Value}, denL ρ args = some xs → i + args.length ≤ n → RRel n ρ g ⟨t, []⟩ →
    RRel n ρ (argRegs args i g) ⟨(xs.zipIdx i).foldl (fun t p => t.setIfInBounds p.2 p.1) t, []⟩
  | [], xs, i, g, t, hd, _, hr => by
    rw [denL_nil.1 hd]
    exact hr
  | v :: args, xs, i, g, t, hd, hl, hr => by
    obtain ⟨y, ys, d1, d2, rfl⟩ := denL_cons.1 hd
    simp only [List.length_cons] at hl
    have hr1 : RRel n ρ (g.seti i v) ⟨t.setIfInBounds i y, []⟩ := by
      have := hr.put d1 (some i)
      simp only [compDst, show i < n by omega, if_true, setDst] at this
      exact this
    have := args_rel (i := i + 1) d2 (by omega) hr1
    exact this

theorem fold_args : ∀ (xs pre : List Value) (k : Nat), ((xs.zipIdx pre.length).foldl (fun (t : Array Value) p => t.setIfInBounds p.2 p.1) (pre ++ List.replicate (xs.length + k) Go.undef).toArray) = (pre ++ xs ++ List.replicate k Go.undef).toArray
  | [], pre, k => by simp
  | x :: xs, pre, k => by
    simp only [List.zipIdx_cons, List.foldl_cons]
    have e : ((pre ++ List.replicate ((x :: xs).length + k) Go.undef).toArray.setIfInBounds pre.length x) = ((pre ++ [x]) ++ List.replicate (xs.length + k) Go.undef).toArray := by
      rw [List.length_cons, show xs.length + 1 + k = (xs.length + k) + 1 by omega, List.replicate_succ]
      simp
    rw [e]
    have := fold_args xs (pre ++ [x]) k
    simp only [List.length_append, List.length_cons, List.length_nil, Nat.zero_add] at this
    rw [this]
    simp

/-- the marks of an activation's loops over functions -/
theorem leaves_marks {F : Fence} {m : Nat} {fn : Func} {tmps : Array Value} {R : Ending → World → Prop} : ∀ {l : List Nat} {ρ : Env} {h h' : AH} {w : World} {ds : List Deferred}, takeMarks l h = some h' → marksDen ρ l = some ds → HRel ρ h w →
    (∀ w', Trans ρ h w ρ h' w' → ∃ v, (results fn tmps).run P w' = .ok v w' ∧ R (.returned v) w') → LeavesInM F m P fn tmps R ds .returning w
  | [], ρ, h, h', w, ds, he, hm, hr, hR => by
    injection he with he
    subst he
    injection hm with hm
    subst hm
    exact hR w (.refl hr)
  | d :: l, ρ, h, h', w, ds, he, hm, hr, hR => by
    unfold takeMarks at he
    simp only [marksDen] at hm
    split at hm
    · rename_i r ds' hd hm'
      injection hm with hm
      subst hm
      split at he
      · rename_i hg
        obtain ⟨h1, e1, e2⟩ := opt_some.1 he
        obtain ⟨hfl, rfl⟩ := put_some e1
        obtain ⟨r', q1, q2⟩ := hr.obj d _ hg
        rw [hd] at q1
        injection q1 with q1
        subst q1
        have q2 : w.heap[r.block]? = some (.deferred (some [])) := q2
        have hlt : r.block < w.heap.size := (Array.getElem?_eq_some_iff.1 q2).1
        have t : Trans ρ h w ρ { h with tr := h.tr.set d (some (.dfr true)) } (w.putObj r.block (.deferred none)) := by
          refine Trans.put hr hg hd ⟨hfl, rfl⟩ (by simp) (fun b hb => World.putObj_heap_other hb) ⟨rfl, rfl, rfl⟩ ?_
          rintro o' ⟨rfl⟩
          exact ⟨World.putObj_heap_same hlt, rfl⟩
        exact ⟨by simp, .inl ⟨r.block, _, rfl, run_takeDeferred q2, leaves_marks e2 hm' t.rel fun w' t' => hR w' (t.trans t')⟩⟩
      · cases he
    · cases hm

/-- a function whose body is run, its calls by H -/
def stepFn (C : FuncId → Option AF) (lf : Nat) (H : CallH) : CallH := fun Y f args h =>
  opt (C f) fun fn =>
  if args.length > fn.nt then none else
  match evCode H lf false Y fn.body (argRegs args 0 .nil, { h with marks := [] }) with
  | some (.normal, (g, h')) | some (.ret, (g, h')) =>
    opt (takeMarks h'.marks h') fun h' =>
    opt (evRVs g h' fn.results) fun vs => some (retV vs, { h' with marks := h.marks })
  | _ => none
theorem evFn_succ (C : FuncId → Option AF) (lf n : Nat) : evFn C lf (n + 1) = stepFn C lf (evFn C lf n) := by
  funext Y f args h
  simp only [evFn, stepFn]
  rfl

theorem stepFn_grow (C : FuncId → Option AF) (lf : Nat) {H : CallH} (hh : HGrow H) : HGrow (stepFn C lf H) := fun Y hy f args h v h' he => by
  unfold stepFn at he
  obtain ⟨fn, _, he⟩ := opt_some.1 he
  split at he
  · cases he
  · split at he
    · rename_i g1 h1 e1
      have q := evCode_grow hh lf _ _ hy e1
      obtain ⟨h2, e2, he⟩ := opt_some.1 he
      obtain ⟨vs, e3, he⟩ := opt_some.1 he
      injection he with he; injection he with _ he; subst he
      have r := (takeMarks_grow e2).two
      have t := q.trans r
      exact ⟨t.1, t.2.1, rfl, t.2.2⟩
    · rename_i g1 h1 e1
      have q := evCode_grow hh lf _ _ hy e1
      obtain ⟨h2, e2, he⟩ := opt_some.1 he
      obtain ⟨vs, e3, he⟩ := opt_some.1 he
      injection he with he; injection he with _ he; subst he
      have r := (takeMarks_grow e2).two
      have t := q.trans r
      exact ⟨t.1, t.2.1, rfl, t.2.2⟩
    · cases he

theorem stepFn_sound (hmix : P.follows .mixedOrders = true) {C : FuncId → Option AF} (hC : ∀ f fn, C f = some fn → compFn P f = some fn) (lf : Nat) {H : CallH} (hsound : HSound P H) (hgrow : HGrow H) : HSound P (stepFn C lf H) :=
  fun Y ρ hy hY f args h v h' w xs he hd hr hglob hfr R hR => by
    unfold stepFn at he
    obtain ⟨af, e1, he⟩ := opt_some.1 he
    have hc := hC f af e1
    unfold compFn at hc
    obtain ⟨fn, c1, hc⟩ := opt_some.1 hc
    obtain ⟨c, c2, hc⟩ := opt_some.1 hc
    obtain ⟨rs, c3, hc⟩ := opt_some.1 hc
    split at hc
    · cases hc
    · rename_i hname
      injection hc with hc
      subst hc
      split at he
      · cases he
      · rename_i hnt
        have hnt : args.length ≤ fn.ntmps := Nat.le_of_not_lt hnt
        have hlen := denL_length hd
        refine ⟨run_callFunc_body c1 c2 hname, fun F m hF => ?_⟩
        have hF0 : WideF { F with round := none } := hF
        show CallsIn { F with round := none } m P f xs.toArray w R
        refine callsIn_of_wp_marks c1 c2 (hF.1 _) ?_
        have hframe : FRel fn.ntmps ρ (argRegs args 0 .nil) ⟨xs.toArray ++ Array.replicate (fn.ntmps - xs.toArray.size) Go.undef, []⟩ := by
          refine ⟨?_, hglob⟩
          have h0 : RRel fn.ntmps ρ .nil ⟨(List.replicate (xs.length + (fn.ntmps - xs.length)) Go.undef).toArray, []⟩ := by
            refine ⟨fun i => ?_, by simp; omega⟩
            rw [RT.geti_nil, den_undef]
            congr 1
            simp only [Array.getD_eq_getD_getElem?, List.getElem?_toArray, List.getElem?_replicate]
            split <;> rfl
          have := args_rel (i := 0) hd (by omega) h0
          have e := fold_args xs [] (fn.ntmps - xs.length)
          simp only [List.length_nil, List.nil_append] at e
          rw [e] at this
          have e2 : (xs ++ List.replicate (fn.ntmps - xs.length) Go.undef).toArray = xs.toArray ++ Array.replicate (fn.ntmps - xs.toArray.size) Go.undef := by
            apply Array.ext'
            simp
          rw [e2] at this
          exact this
        have fin : ∀ {x : AX} {g1 : RT} {h1 : AH}, (x = .normal ∨ x = .ret) → evCode H lf false Y (comp P fn.ntmps c) (argRegs args 0 .nil, { h with marks := [] }) = some (x, (g1, h1)) →
            (opt (takeMarks h1.marks h1) fun h' => opt (evRVs g1 h' rs) fun vs => some (retV vs, { h' with marks := h.marks })) = some (v, h') →
            c.wpIn { F with round := none } m P (bodyPostM { F with round := none } m P fn R) ⟨xs.toArray ++ Array.replicate (fn.ntmps - xs.toArray.size) Go.undef, []⟩ w := by
          intro x g1 h1 hx q1 q2
          obtain ⟨h2, t1, q2⟩ := opt_some.1 q2
          obtain ⟨vs, t2, q2⟩ := opt_some.1 q2
          injection q2 with z0
          injection z0 with z1 z2
          subst z1
          subst z2
          have gr := takeMarks_grow t1
          refine code_sound hmix hsound hgrow c false { F with round := none } hF0 (fun _ => rfl) m Y ρ (argRegs args 0 .nil) _ { h with marks := [] } w x g1 h1 _ hy hY hframe hr.marks (hfr.upto gr.1) rfl q1 fun a' w' ρ' hf' ht hm => ?_
          have key : LeavesInM { F with round := none } m P fn a'.tmps R a'.defers .returning w' := by
            refine leaves_marks t1 hm ht.rel fun w'' t => ?_
            obtain ⟨y, d, r⟩ := results_run hf' t.rel c3 t2
            exact ⟨y, r, hR y w'' ρ' d (Trans.marks (ht.trans t))⟩
          rcases hx with rfl | rfl <;> exact key
        split at he
        · rename_i g1 h1 q1
          exact fin (.inl rfl) q1 he
        · rename_i g1 h1 q1
          exact fin (.inr rfl) q1 he
        · cases he

/-- functions, by the count of calls within one another -/
theorem evFn_sound (hmix : P.follows .mixedOrders = true) {C : FuncId → Option AF} (hC : ∀ f fn, C f = some fn → compFn P f = some fn) (lf : Nat) : ∀ k, HSound P (evFn C lf k)
  | 0 => fun Y ρ hy hY f args h v h' w xs he => by cases he
  | k + 1 => by
    rw [evFn_succ]
    exact stepFn_sound hmix hC lf (evFn_sound hmix hC lf k) (evFn_grow C lf k)
end
end Go.Am

/- What a run of the abstract machine says of the model's call; a call that is known. -/
namespace Go.Am

/-- tables: rows of numbers that nobody writes, at the places of package-level variables -/
def TabOk (T : HT) : Prop := ∀ id o, T.get id = some o → id < 32 ∧ ∃ e cs, o = .row e cs .ro ∧ cs.all AV.flat = true

section
variable {P : Program}

/-- a function that answers true where the tables are, and that needs nothing else -/
def Known (P : Program) (aw : FuncId) (T : HT) : Prop := ∀ ρ h w, HRel ρ h w → GlobOk ρ → (∀ id o, T.get id = some o → h.get id = some o) →
  ∀ R : Ending → World → Prop, (∀ w', Trans ρ h w ρ h w' → R (.returned (.bool true)) w') → Enters P aw [] w R

theorem known_of_run {H : CallH} (hH : HSound P H) {aw : FuncId} {T : HT} (hT : TabOk T) {h1 : AH} (he : H (fun _ => none) aw [] { next := 32, floor := 32, marks := [], tr := T } = some (.bool true, h1)) : Known P aw T := by
  intro ρ h w hr hg ht R hR
  let ρ0 : Env := fun i => if i < 32 then ρ i else none
  have hlt : ∀ i, i < 32 → ρ0 i = ρ i := fun i hi => if_pos hi
  have hg0 : GlobOk ρ0 := fun i hi => by
    obtain ⟨r, r1, r2⟩ := hg i hi
    exact ⟨r, (hlt i hi).trans r1, r2⟩
  have hr0 : HRel ρ0 { next := 32, floor := 32, marks := [], tr := T } w := by
    refine ⟨fun id o ho => ?_, fun i j oi oj ri rj hi hj hne hri hrj hwi => ?_, fun id o ho => (hT id o ho).1⟩
    · obtain ⟨hid, e, cs, rfl, hf⟩ := hT id o ho
      obtain ⟨r, r1, r2⟩ := hr.obj id _ (ht id _ ho)
      refine ⟨r, (hlt id hid).trans r1, ?_⟩
      obtain ⟨c, ty, fz, vs, tail, q1, q2, q3, q4⟩ := r2
      exact ⟨c, ty, fz, vs, tail, q1, q2, flat_denL hf q3, q4⟩
    · obtain ⟨_, e, cs, rfl, _⟩ := hT i oi hi
      have := hwi.2
      cases this
  refine hH (fun _ => none) ρ0 (fun id fy args h v h' e => by cases e) (fun id fy e => by cases e) aw [] _ _ _ w [] he rfl hr0 hg0 (fun id h1 _ => if_neg (Nat.not_lt.2 h1)) R fun x w' ρ' hx ht' => ?_
  have hx : x = .bool true := (Option.some.inj hx).symm
  subst hx
  refine hR w' (Trans.grown hr ht'.size (fun b hb => ht'.keep b hb ?_) ht'.alike)
  rintro ⟨id, o, r, h1, h2, _⟩
  obtain ⟨_, e, cs, rfl, _⟩ := hT id o h1
  have := h2.2
  cases this

open Classical in
/-- calls, one of which is known -/
noncomputable def orc (aw : FuncId) (T : HT) (H : CallH) : CallH := fun Y f args h =>
  match Nat.beq f aw with
  | true => if args = [] ∧ (∀ id o, T.get id = some o → h.get id = some o) then some (.bool true, h) else none
  | false => H Y f args h
theorem orc_true {aw : FuncId} {T : HT} {H : CallH} {Y : YH} {h : AH} (ht : ∀ id o, T.get id = some o → h.get id = some o) : orc aw T H Y aw [] h = some (.bool true, h) := by
  unfold orc
  rw [show Nat.beq aw aw = true by simp]
  exact if_pos ⟨rfl, ht⟩
theorem orc_false {aw : FuncId} {T : HT} {H : CallH} {Y : YH} {f : FuncId} {args : List AV} {h : AH} (hf : f ≠ aw) : orc aw T H Y f args h = H Y f args h := by
  unfold orc
  have : Nat.beq f aw = false := by
    cases e : Nat.beq f aw with
    | false => rfl
    | true => exact absurd (Nat.eq_of_beq_eq_true e) hf
  rw [this]

theorem orc_sound {aw : FuncId} {T : HT} (hk : Known P aw T) {H : CallH} (hH : HSound P H) : HSound P (orc aw T H) := by
  intro Y ρ hy hY f args h v h' w xs he hd hr hg hfr R hR
  unfold orc at he
  split at he
  · rename_i hf
    have hf := Nat.eq_of_beq_eq_true hf
    subst hf
    split at he
    · rename_i hc
      obtain ⟨rfl, ht⟩ := hc
      injection he with he
      injection he with e1 e2
      subst e1 e2
      rw [denL_nil.1 hd]
      exact hk ρ h w hr hg ht R fun w' t => hR _ w' ρ rfl t
    · cases he
  · exact hH Y ρ hy hY f args h v h' w xs he hd hr hg hfr R hR
theorem orc_grow {aw : FuncId} {T : HT} {H : CallH} (hh : HGrow H) : HGrow (orc aw T H) := by
  intro Y hy f args h v h' he
  unfold orc at he
  split at he
  · split at he
    · injection he with he
      injection he with e1 e2
      subst e2
      exact .refl _
    · cases he
  · exact hh Y hy f args h v h' he

/-- the abstract machine, the known call apart -/
noncomputable def evG (aw : FuncId) (T : HT) (C : FuncId → Option AF) (lf : Nat) : Nat → CallH
  | 0 => fun _ _ _ _ => none
  | n + 1 => orc aw T (stepFn C lf (evG aw T C lf n))

theorem evG_grow (aw : FuncId) (T : HT) (C : FuncId → Option AF) (lf : Nat) : ∀ n, HGrow (evG aw T C lf n)
  | 0 => fun Y hy f args h v h' he => by cases he
  | n + 1 => orc_grow (stepFn_grow C lf (evG_grow aw T C lf n))
theorem evG_sound (hmix : P.follows .mixedOrders = true) {C : FuncId → Option AF} (hC : ∀ f fn, C f = some fn → compFn P f = some fn) {aw : FuncId} {T : HT} (hk : Known P aw T) (lf : Nat) : ∀ n, HSound P (evG aw T C lf n)
  | 0 => fun Y ρ hy hY f args h v h' w xs he => by cases he
  | n + 1 => orc_sound hk (stepFn_sound hmix hC lf (evG_sound hmix hC hk lf n) (evG_grow aw T C lf n))

theorem evG_known {aw : FuncId} {T : HT} {C : FuncId → Option AF} {lf n : Nat} {Y : YH} {h : AH} (ht : ∀ id o, T.get id = some o → h.get id = some o) : evG aw T C lf (n + 1) Y aw [] h = some (.bool true, h) := by
  unfold evG
  exact orc_true ht
theorem evG_step {aw : FuncId} {T : HT} {C : FuncId → Option AF} {lf n : Nat} {Y : YH} {f : FuncId} {args : List AV} {h : AH} (hf : f ≠ aw) : evG aw T C lf (n + 1) Y f args h = stepFn C lf (evG aw T C lf n) Y f args h := by
  have e : evG aw T C lf (n + 1) Y f args h = orc aw T (stepFn C lf (evG aw T C lf n)) Y f args h := by cases n <;> rfl
  rw [e, orc_false hf]

/-- the world behind a call that has changed nothing that was there -/
structure Still (w w' : World) : Prop where
  os : w'.os = w.os
  output : w'.output = w.output
  size : w.heap.size ≤ w'.heap.size
  heap : ∀ b, b < w.heap.size → w'.heap[b]? = w.heap[b]?

theorem Still.kept {w w' : World} (h : Still w w') (may : MemPlace → Prop) : w.keptBut w' may := by
  refine ⟨h.os, h.output, fun i hi => ?_⟩
  rw [h.heap i hi]
  cases hx : w.heap[i]? with
  | none => rfl
  | some o => cases o <;> first | exact ⟨rfl, rfl, rfl, fun _ _ => rfl⟩ | exact .inr ⟨rfl, rfl⟩ | rfl
theorem Still.frozen {w w' : World} (h : Still w w') {a : Addr} (ha : a.block < w.heap.size) : w'.frozen? a = w.frozen? a := by
  unfold World.frozen?
  rw [h.heap _ ha]
theorem Still.cell {w w' : World} (h : Still w w') {a : Addr} (ha : a.block < w.heap.size) : w'.cell? a = w.cell? a := by
  unfold World.cell?
  rw [h.heap _ ha]

/-- a run of the abstract machine from a heap of rows that nobody writes is a call -/
theorem calls_of_run {H : CallH} (hH : HSound P H) {ρ : Env} {f : FuncId} {args : List AV} {h h' : AH} {w : World} {xs : List Value} (he : H (fun _ => none) f args h = some (.bool true, h')) (hd : denL ρ args = some xs) (hr : HRel ρ h w) (hg : GlobOk ρ)
    (hfr : ∀ id, h.next ≤ id → ρ id = none) (hro : ∀ id o, h.get id = some o → o.isRo = true) : Calls P f xs.toArray w fun e w' => e = .returned (.bool true) ∧ Still w w' := by
  have := hH (fun _ => none) ρ (fun id fy args h v h' e => by cases e) (fun id fy e => by cases e) f args h _ h' w xs he hd hr hg (fun id h1 _ => hfr id h1) (fun e w' => e = .returned (.bool true) ∧ Still w w') fun x w' ρ' hx ht => by
    refine ⟨by rw [← Option.some.inj hx], ht.alike.os, ht.alike.output, ht.size, fun b hb => ht.keep b hb ?_⟩
    rintro ⟨id, o, r, h1, h2, _⟩
    have h3 := h2.2
    rw [hro id o h1] at h3
    cases h3
  exact callsIn_wide.1 (this.runs Fence.wide 0 WideF.wide)

/-- a row of the world, read cell by cell -/
theorem row_of_cells {ρ : Env} {e b o : Nat} {cs : List AV} {xs : List Value} {w : World} {r : Row} (hb : r.block = b) (ho : r.off = o) (hd : denL ρ cs = some xs) (hne : cs ≠ []) (hc : ∀ i x, xs[i]? = some x → w.cell? ⟨b, o + i, none⟩ = some x) : RowRel ρ e cs .ro r w := by
  subst hb ho
  have hlen := denL_length hd
  have h0 : 0 < xs.length := by
    rw [hlen]
    exact List.length_pos_iff.2 hne
  have hcell : ∀ i x, xs[i]? = some x → ∃ c ty fz, w.heap[r.block]? = some (.cells c ty fz) ∧ c[r.off + i]? = some x := fun i x hx => by
    have h1 := hc i x hx
    unfold World.cell? at h1
    cases hh : w.heap[r.block]? with
    | none => simp [hh] at h1
    | some ob =>
      cases ob <;> simp [hh] at h1
      exact ⟨_, _, _, rfl, h1⟩
  obtain ⟨c, ty, fz, h1, _⟩ := hcell 0 xs[0] (List.getElem?_eq_getElem h0)
  have hall : ∀ i x, xs[i]? = some x → c[r.off + i]? = some x := fun i x hx => by
    obtain ⟨c', ty', fz', h2, h3⟩ := hcell i x hx
    rw [h1] at h2
    injection h2 with h2
    injection h2 with h2
    rw [h2]
    exact h3
  have hsz : r.off + xs.length ≤ c.size := by
    have := hall (xs.length - 1) xs[xs.length - 1] (List.getElem?_eq_getElem (by omega))
    have := (Array.getElem?_eq_some_iff.1 this).1
    omega
  refine ⟨c, ty, fz, xs, c.toList.drop (r.off + xs.length), h1, fun q => absurd rfl q, hd, ?_, by rw [← hlen]; exact hsz, fun q => by cases q⟩
  apply List.ext_getElem?
  intro i
  rw [List.getElem?_drop, List.getElem?_append]
  split
  · rename_i hi
    have := hall i xs[i] (List.getElem?_eq_getElem hi)
    rw [List.getElem?_eq_getElem hi]
    simpa using this
  · rw [List.getElem?_drop]
    congr 1
    omega
end
end Go.Am
