/- A logic of the abstract code: its rules speak of the model's run. -/
import Derived.Test.YtiakcbnmagpabaaGreatDoorA4
import Derived.Test.YtiakcbnmagpabaaGreatDoorA0
namespace Go.Am

/-- how a code ends -/
def liftQ (Q : AX → Act → World → Prop) : Exit → Act → World → Prop
  | .normal, a, w => Q .normal a w
  | .exit id, a, w => Q (.exit id) a w
  | .ret, a, w => Q .ret a w
  | _, _, _ => False
theorem liftQ_toEx {Q : AX → Act → World → Prop} {x : AX} {a : Act} {w : World} (h : Q x a w) : liftQ Q x.toEx a w := by cases x <;> exact h

def scopes : Nat → Code → Code
  | 0, c => c
  | k + 1, c => .scope (scopes k c)

section
variable {F : Fence} {m : Nat} {P : Program} {n : Nat} {Q Q' : AX → Act → World → Prop} {a : Act} {w : World}

theorem wpIn_scopes {c : Code} (h : c.wpIn F m P (liftQ Q) a w) : ∀ k, (scopes k c).wpIn F m P (liftQ Q) a w
  | 0 => h
  | k + 1 => wpIn_scope (wpIn_mono (wpIn_scopes h k) fun e a w q => by cases e <;> exact q)

theorem comp_scopes (P : Program) (n : Nat) (c : Code) : ∀ k, comp P n (scopes k c) = comp P n c
  | 0 => rfl
  | k + 1 => comp_scopes P n c k

def notScope : Code → Bool
  | .scope _ => false
  | _ => true
theorem scopes_of : ∀ c : Code, ∃ k c0, c = scopes k c0 ∧ notScope c0 = true
  | .scope c => by
    obtain ⟨k, c0, rfl, h⟩ := scopes_of c
    exact ⟨k + 1, c0, rfl, h⟩
  | .skip => ⟨0, _, rfl, rfl⟩ | .region _ _ _ => ⟨0, _, rfl, rfl⟩ | .seq _ _ => ⟨0, _, rfl, rfl⟩ | .cond _ _ _ => ⟨0, _, rfl, rfl⟩ | .block _ _ => ⟨0, _, rfl, rfl⟩ | .loop _ => ⟨0, _, rfl, rfl⟩
  | .rangeFunc _ _ _ _ => ⟨0, _, rfl, rfl⟩ | .exit _ => ⟨0, _, rfl, rfl⟩ | .label _ => ⟨0, _, rfl, rfl⟩ | .goto _ => ⟨0, _, rfl, rfl⟩ | .ret => ⟨0, _, rfl, rfl⟩ | .refuse _ => ⟨0, _, rfl, rfl⟩

/-- the abstract code ac comes to Q, whatever code it stands for -/
def wpA (F : Fence) (m : Nat) (P : Program) (n : Nat) (ac : AC) (Q : AX → Act → World → Prop) (a : Act) (w : World) : Prop := ∀ c, comp P n c = ac → c.wpIn F m P (liftQ Q) a w

theorem wpA_mono {ac : AC} (h : wpA F m P n ac Q a w) (hq : ∀ x a w, Q x a w → Q' x a w) : wpA F m P n ac Q' a w := fun c hc =>
  wpIn_mono (h c hc) fun e a w q => by cases e <;> first | exact hq _ _ _ q | exact q

theorem wpA_of {ac : AC} (h : ∀ c, notScope c = true → comp P n c = ac → c.wpIn F m P (liftQ Q) a w) : wpA F m P n ac Q a w := fun c hc => by
  obtain ⟨k, c0, rfl, h0⟩ := scopes_of c
  rw [comp_scopes] at hc
  exact wpIn_scopes (h c0 h0 hc) k

theorem compRegion_cases (ops : Array Oper) (draw : Bool) : (∃ l, compRegion P n ops draw = .ops l) ∨ (∃ l p, compRegion P n ops draw = .multi l p) ∨ (∃ k, compRegion P n ops draw = .fail k) := by
  unfold compRegion
  dsimp only
  split
  · exact .inl ⟨_, rfl⟩
  · split
    · exact .inr (.inr ⟨_, rfl⟩)
    · split
      · exact .inl ⟨_, rfl⟩
      · split
        · exact .inl ⟨_, rfl⟩
        · exact .inr (.inl ⟨_, _, rfl⟩)

theorem wpA_seq {x y : AC} (h : wpA F m P n x (fun e a w => match e with | .normal => wpA F m P n y Q a w | e => Q e a w) a w) : wpA F m P n (.seq x y) Q a w := by
  refine wpA_of fun c h0 hc => ?_
  cases c <;> simp only [comp] at hc <;> try (cases hc; done)
  case region id ops draw => rcases compRegion_cases (P := P) (n := n) ops draw with ⟨l, e⟩ | ⟨l, p, e⟩ | ⟨k, e⟩ <;> rw [e] at hc <;> cases hc
  case seq c1 c2 =>
    injection hc with h1 h2
    refine wpIn_seq (wpIn_mono (h c1 h1) fun e a w q => ?_)
    cases e <;> first | exact q c2 h2 | exact q
  case cond o c1 c2 => split at hc <;> cases hc
  case rangeFunc f ps c1 c2 =>
    split at hc
    · split at hc <;> cases hc
    · cases hc
  case scope => cases h0

theorem wpA_cond {ρ : Env} {g : RT} {o : Opd} {x y : AC} {b : Bool} (hf : FRel n ρ g a) (hb : o.ev g = .bool b) (h1 : b = true → wpA F m P n x Q a w) (h2 : b = false → wpA F m P n y Q a w) : wpA F m P n (.cond o x y) Q a w := by
  refine wpA_of fun c h0 hc => ?_
  cases c <;> simp only [comp] at hc <;> try (cases hc; done)
  case region id ops draw => rcases compRegion_cases (P := P) (n := n) ops draw with ⟨l, e⟩ | ⟨l, p, e⟩ | ⟨k, e⟩ <;> rw [e] at hc <;> cases hc
  case cond o' c1 c2 =>
    split at hc
    · rename_i o'' ho
      injection hc with e1 e2 e3
      subst e1
      have hden := opd_den hf ho
      rw [hb] at hden
      have hev : a.eval o' = .bool b := (Option.some.inj hden).symm
      refine wpIn_cond_split hev (fun hb => h1 hb c1 e2) (fun hb => h2 hb c2 e3)
    · cases hc
  case rangeFunc f ps c1 c2 =>
    split at hc
    · split at hc <;> cases hc
    · cases hc
  case scope => cases h0

theorem wpA_block {id : Nat} {x : AC} (h : wpA F m P n x (fun e a w => match e with | .exit i => if i = id then Q .normal a w else Q (.exit i) a w | e => Q e a w) a w) : wpA F m P n (.block id x) Q a w := by
  refine wpA_of fun c h0 hc => ?_
  cases c <;> simp only [comp] at hc <;> try (cases hc; done)
  case region id ops draw => rcases compRegion_cases (P := P) (n := n) ops draw with ⟨l, e⟩ | ⟨l, p, e⟩ | ⟨k, e⟩ <;> rw [e] at hc <;> cases hc
  case block i c1 =>
    injection hc with h1 h2
    subst h1
    refine wpIn_block (wpIn_mono (h c1 h2) fun e a w q => ?_)
    cases e with
    | exit j =>
      show if j = i then liftQ Q .normal a w else liftQ Q (.exit j) a w
      have q : (if j = i then Q .normal a w else Q (.exit j) a w) := q
      split
      · rename_i e; rw [if_pos e] at q; exact q
      · rename_i e; rw [if_neg e] at q; exact q
    | _ => exact q
  case cond o c1 c2 => split at hc <;> cases hc
  case rangeFunc f ps c1 c2 =>
    split at hc
    · split at hc <;> cases hc
    · cases hc
  case scope => cases h0

theorem wpA_loop {x : AC} (I : Nat → Act → World → Prop) {k : Nat} (h₀ : I k a w) (round : ∀ k a w, I k a w → wpA F m P n x (fun e a' w' => match e with | .normal => ∃ j, j < k ∧ I j a' w' | e => Q e a' w') a w) : wpA F m P n (.loop x) Q a w := by
  refine wpA_of fun c h0 hc => ?_
  cases c <;> simp only [comp] at hc <;> try (cases hc; done)
  case region id ops draw => rcases compRegion_cases (P := P) (n := n) ops draw with ⟨l, e⟩ | ⟨l, p, e⟩ | ⟨k, e⟩ <;> rw [e] at hc <;> cases hc
  case loop c1 =>
    injection hc with h1
    refine wpIn_loop_count I h₀ fun k a w hI => wpIn_mono (round k a w hI c1 h1) fun e a w q => ?_
    cases e <;> exact q
  case cond o c1 c2 => split at hc <;> cases hc
  case rangeFunc f ps c1 c2 =>
    split at hc
    · split at hc <;> cases hc
    · cases hc
  case scope => cases h0

theorem wpA_skip (h : Q .normal a w) : wpA F m P n .skip Q a w := by
  refine wpA_of fun c h0 hc => ?_
  cases c <;> simp only [comp] at hc <;> try (cases hc; done)
  case skip => exact wpIn_skip h
  case label => exact wpIn_label h
  case region id ops draw => rcases compRegion_cases (P := P) (n := n) ops draw with ⟨l, e⟩ | ⟨l, p, e⟩ | ⟨k, e⟩ <;> rw [e] at hc <;> cases hc
  case cond o c1 c2 => split at hc <;> cases hc
  case rangeFunc f ps c1 c2 =>
    split at hc
    · split at hc <;> cases hc
    · cases hc
  case scope => cases h0
theorem wpA_exit {id : Nat} (h : Q (.exit id) a w) : wpA F m P n (.exit id) Q a w := by
  refine wpA_of fun c h0 hc => ?_
  cases c <;> simp only [comp] at hc <;> try (cases hc; done)
  case exit i => injection hc with hc; subst hc; exact wpIn_exit h
  case region id ops draw => rcases compRegion_cases (P := P) (n := n) ops draw with ⟨l, e⟩ | ⟨l, p, e⟩ | ⟨k, e⟩ <;> rw [e] at hc <;> cases hc
  case cond o c1 c2 => split at hc <;> cases hc
  case rangeFunc f ps c1 c2 =>
    split at hc
    · split at hc <;> cases hc
    · cases hc
  case scope => cases h0
theorem wpA_ret (h : Q .ret a w) : wpA F m P n .ret Q a w := by
  refine wpA_of fun c h0 hc => ?_
  cases c <;> simp only [comp] at hc <;> try (cases hc; done)
  case ret => exact wpIn_ret h
  case region id ops draw => rcases compRegion_cases (P := P) (n := n) ops draw with ⟨l, e⟩ | ⟨l, p, e⟩ | ⟨k, e⟩ <;> rw [e] at hc <;> cases hc
  case cond o c1 c2 => split at hc <;> cases hc
  case rangeFunc f ps c1 c2 =>
    split at hc
    · split at hc <;> cases hc
    · cases hc
  case scope => cases h0

/-- a bound on names: those above are of nobody's use -/
def far : Nat := 1000000

/-- the abstract state (g, h) stands for the activation and the world; nothing that was there in w0 has changed, nor may it be -/
structure Abs (n : Nat) (w0 : World) (ρ : Env) (g : RT) (h : AH) (a : Act) (w : World) : Prop where
  fr : FRel n ρ g a
  hr : HRel ρ h w
  still : Still w0 w
  own : ∀ b, h.owns ρ b → w0.heap.size ≤ b
  fresh : ∀ id, h.next ≤ id → id < far → ρ id = none
  marks : marksDen ρ h.marks = some a.defers

theorem Abs.step {w0 w' : World} {ρ ρ' : Env} {g g' : RT} {h h' : AH} {a' : Act} (s : Abs n w0 ρ g h a w) (hf : FRel n ρ' g' a') (t : Trans ρ h w ρ' h' w') (hm : marksDen ρ' h'.marks = some a'.defers) : Abs n w0 ρ' g' h' a' w' := by
  refine ⟨hf, t.rel, ⟨t.alike.os.trans s.still.os, t.alike.output.trans s.still.output, Nat.le_trans s.still.size t.size, fun b hb => ?_⟩, fun b hb => ?_, fun id h1 h2 => ?_, hm⟩
  · rw [t.keep b (Nat.lt_of_lt_of_le hb s.still.size) fun q => Nat.not_lt.2 (s.own b q) hb]
    exact s.still.heap b hb
  · rcases t.own b hb with q | q
    · exact Nat.le_trans s.still.size q
    · exact s.own b q
  · have := t.next
    rw [t.new id (by omega)]
    exact s.fresh id (by omega) h2

/-- a piece of code that the evaluator runs -/
theorem wpA_run (hmix : P.follows .mixedOrders = true) {H : CallH} (hH : HSound P H) (hh : HGrow H) (hF : WideF F) (hro : F.round = none) {w0 : World} {ρ : Env} {g g' : RT} {h h' : AH} {ac : AC} {x : AX} (lf : Nat) (s : Abs n w0 ρ g h a w)
    (he : evCode H lf false (fun _ => none) ac (g, h) = some (x, (g', h'))) (hn : h'.next ≤ far) (hQ : ∀ a' w' ρ', Abs n w0 ρ' g' h' a' w' → Q x a' w') : wpA F m P n ac Q a w := by
  intro c hc
  subst hc
  refine code_sound hmix hH hh c false F hF (fun _ => hro) m (fun _ => none) ρ g a h w x g' h' _ (fun id fy args h v h' e => by cases e) (fun id fy e => by cases e) s.fr s.hr (fun id h1 h2 => s.fresh id h1 (Nat.lt_of_lt_of_le h2 hn)) s.marks he fun a' w' ρ' hf ht hm => liftQ_toEx (hQ a' w' ρ' (s.step hf ht hm))
end

/-! ### other names -/
mutual
def AV.ren (π : Nat → Nat) : AV → AV
  | .ptr id off => .ptr (π id) off
  | .slice id off len c => .slice (π id) off len c
  | .map id => .map (π id)
  | .func (.yield l) a b => .func (.yield (π l)) (renL π a) (renL π b)
  | .func f a b => .func f (renL π a) (renL π b)
  | .agg l => .agg (renL π l)
  | .tuple l => .tuple (renL π l)
  | v => v
def renL (π : Nat → Nat) : List AV → List AV
  | [] => []
  | v :: l => v.ren π :: renL π l
end

mutual
theorem ren_den {ρ ρ2 : Env} {π : Nat → Nat} (h : ∀ id r, ρ id = some r → ρ2 (π id) = some r) : ∀ (v : AV) (x : Value), v.den ρ = some x → (v.ren π).den ρ2 = some x
  | .bool _, _, e | .int _ _, _, e | .str _, _, e | .nilptr, _, e | .nilslice, _, e | .nilmap, _, e | .nilfunc, _, e => by simpa [AV.den, AV.ren] using e
  | .ptr _ _, _, e => by
    obtain ⟨r, h1, rfl⟩ := den_ptr.1 e
    exact den_ptr.2 ⟨r, h _ _ h1, rfl⟩
  | .slice _ _ _ _, _, e => by
    obtain ⟨r, h1, rfl⟩ := den_slice.1 e
    exact den_slice.2 ⟨r, h _ _ h1, rfl⟩
  | .map _, _, e => by
    obtain ⟨r, h1, rfl⟩ := den_map.1 e
    exact den_map.2 ⟨r, h _ _ h1, rfl⟩
  | .func fn a b, x, e => by
    obtain ⟨g, xs, ys, h1, h2, h3, rfl⟩ := den_func.1 e
    have q2 := renL_den h a _ h2
    have q3 := renL_den h b _ h3
    cases fn <;> simp only [fnDen] at h1 <;> simp only [AV.ren] <;> refine den_func.2 ⟨g, xs, ys, ?_, q2, q3, rfl⟩ <;> try exact h1
    rename_i l
    cases hl : ρ l with
    | none => rw [hl] at h1; cases h1
    | some r =>
      rw [hl] at h1
      simp only [fnDen, h _ _ hl]
      exact h1
  | .agg l, x, e => by
    obtain ⟨xs, h1, rfl⟩ := den_agg.1 e
    exact den_agg.2 ⟨xs, renL_den h l _ h1, rfl⟩
  | .tuple l, x, e => by
    obtain ⟨xs, h1, rfl⟩ := den_tuple.1 e
    exact den_tuple.2 ⟨xs, renL_den h l _ h1, rfl⟩
theorem renL_den {ρ ρ2 : Env} {π : Nat → Nat} (h : ∀ id r, ρ id = some r → ρ2 (π id) = some r) : ∀ (l : List AV) (xs : List Value), denL ρ l = some xs → denL ρ2 (renL π l) = some xs
  | [], _, e => by rw [denL_nil.1 e]; rfl
  | v :: l, xs, e => by
    obtain ⟨y, ys, h1, h2, rfl⟩ := denL_cons.1 e
    exact denL_cons.2 ⟨y, ys, ren_den h v _ h1, renL_den h l _ h2, rfl⟩
end
theorem renL_length (π : Nat → Nat) : ∀ l, (renL π l).length = l.length
  | [] => rfl
  | v :: l => by simp [renL, renL_length π l]
def renE (π : Nat → Nat) : List (AV × AV × Nat) → List (AV × AV × Nat)
  | [] => []
  | (k, v, b) :: l => (k.ren π, v.ren π, b) :: renE π l
def AO.ren (π : Nat → Nat) : AO → AO
  | .row e cs k => .row e (renL π cs) k
  | .map es c => .map (renE π es) c
  | o => o
theorem renE_den {ρ ρ2 : Env} {π : Nat → Nat} (h : ∀ id r, ρ id = some r → ρ2 (π id) = some r) : ∀ (es : List (AV × AV × Nat)) (l : List MapEntry), entryDen ρ es = some l → entryDen ρ2 (renE π es) = some l
  | [], _, e => e
  | (k, v, b) :: es, l, e => by
    simp only [entryDen, renE] at e ⊢
    split at e
    · rename_i h1 h2 h3
      rw [ren_den h k _ h1, ren_den h v _ h2, renE_den h es _ h3]
      exact e
    · cases e
theorem AO.ren_isRo (π : Nat → Nat) (o : AO) : (o.ren π).isRo = o.isRo := by
  cases o <;> first | rfl | skip
  rename_i e cs k
  cases k <;> rfl
theorem ren_obj {ρ ρ2 : Env} {π : Nat → Nat} (h : ∀ id r, ρ id = some r → ρ2 (π id) = some r) {o : AO} {r : Row} {w : World} (ho : ObjRel ρ o r w) : ObjRel ρ2 (o.ren π) r w := by
  cases o with
  | row e cs k =>
    obtain ⟨c, ty, fz, vs, tail, h1, h2, h3, h4, h5, h6⟩ := ho
    exact ⟨c, ty, fz, vs, tail, h1, h2, renL_den h _ _ h3, h4, by rw [renL_length]; exact h5, h6⟩
  | map es clock =>
    obtain ⟨l, h1, h2⟩ := ho
    exact ⟨l, h1, renE_den h _ _ h2⟩
  | loop st p => exact ho
  | dfr t => exact ho
def RT.ren (π : Nat → Nat) : RT → RT
  | .nil => .nil
  | .node v l r => .node (v.ren π) (l.ren π) (r.ren π)
theorem RT.get_ren (π : Nat → Nat) : ∀ (p : Pth) (g : RT), RT.get p (g.ren π) = (RT.get p g).ren π
  | p, .nil => by rw [RT.ren, RT.get_nil]; rfl
  | .h, .node _ _ _ => rfl
  | .l p, .node _ a _ => RT.get_ren π p a
  | .r p, .node _ _ b => RT.get_ren π p b
theorem RT.geti_ren (π : Nat → Nat) (g : RT) (i : Nat) : (g.ren π).geti i = (g.geti i).ren π := RT.get_ren π _ g

/-- names that are live stay, or become others; all else is put far away -/
theorem Abs.rename {n : Nat} {w0 w : World} {ρ : Env} {g : RT} {h h2 : AH} {a : Act} (s : Abs n w0 ρ g h a w) (π : Nat → Nat) (ρ2 : Env) (h1 : ∀ id r, ρ id = some r → ρ2 (π id) = some r) (hg : ∀ id, id < 32 → π id = id) (hm : h.marks = []) (hm2 : h2.marks = [])
    (hobj : ∀ id o2, h2.get id = some o2 → id < h2.next ∧ ∃ o, ∃ ob, h.get o = some ob ∧ ob.ren π = o2 ∧ π o = id ∧ (h2.floor ≤ id → h.floor ≤ o)) (hfr : ∀ id, h2.next ≤ id → id < far → ρ2 id = none) : Abs n w0 ρ2 (g.ren π) h2 a w := by
  refine ⟨⟨⟨fun i => ?_, s.fr.size⟩, fun i hi => ?_⟩, ⟨fun id o2 ho => ?_, fun i j oi oj ri rj hi hj hne hri hrj hwi => ?_, fun id o2 ho => (hobj id o2 ho).1⟩, s.still, fun b hb => ?_, hfr, ?_⟩
  · rw [RT.geti_ren]
    exact ren_den h1 _ _ (s.fr.reg i)
  · obtain ⟨r, r1, r2⟩ := s.fr.glob i hi
    refine ⟨r, ?_, r2⟩
    have := h1 _ _ r1
    rwa [hg i hi] at this
  · obtain ⟨_, o, ob, q1, rfl, rfl, _⟩ := hobj id o2 ho
    obtain ⟨r, r1, r2⟩ := s.hr.obj o ob q1
    exact ⟨r, h1 _ _ r1, ren_obj h1 r2⟩
  · obtain ⟨_, o, ob, q1, rfl, rfl, q4⟩ := hobj i oi hi
    obtain ⟨_, o', ob', q1', rfl, rfl, _⟩ := hobj j oj hj
    obtain ⟨r, r1, r2⟩ := s.hr.obj o ob q1
    obtain ⟨r', r1', r2'⟩ := s.hr.obj o' ob' q1'
    have e1 := h1 _ _ r1
    have e2 := h1 _ _ r1'
    rw [hri] at e1
    rw [hrj] at e2
    injection e1 with e1
    injection e2 with e2
    subst e1 e2
    exact s.hr.inj o o' ob ob' ri rj q1 q1' (fun e => hne (by rw [e])) r1 r1' ⟨q4 hwi.1, (AO.ren_isRo π ob) ▸ hwi.2⟩
  · obtain ⟨id, o2, r, q1, q2, q3, rfl⟩ := hb
    obtain ⟨_, o, ob, p1, rfl, rfl, p4⟩ := hobj id o2 q1
    obtain ⟨r', r1, r2⟩ := s.hr.obj o ob p1
    have e1 := h1 _ _ r1
    rw [q3] at e1
    injection e1 with e1
    subst e1
    exact s.own _ ⟨o, ob, r, p1, ⟨p4 q2.1, (AO.ren_isRo π ob) ▸ q2.2⟩, r1, rfl⟩
  · have := s.marks
    rw [hm] at this
    rw [hm2]
    exact this

/-- the names from k on are forgotten -/
def past (k : Nat) (id : Nat) : Nat := if id < k then id else id + far
def pastE (k : Nat) (ρ : Env) : Env := fun id => if id < k then ρ id else if far ≤ id then (if k ≤ id - far then ρ (id - far) else none) else none
theorem past_env {ρ : Env} {k : Nat} (hk : k ≤ far) {id : Nat} {r : Row} (h : ρ id = some r) : pastE k ρ (past k id) = some r := by
  unfold pastE past
  by_cases h1 : id < k
  · rw [if_pos h1, if_pos h1]; exact h
  · rw [if_neg h1, if_neg (by omega), if_pos (by omega), if_pos (by omega), Nat.add_sub_cancel]
    exact h
/-- an abstract state with fewer objects -/
theorem Abs.forget {n : Nat} {w0 w : World} {ρ : Env} {g : RT} {h h2 : AH} {a : Act} (s : Abs n w0 ρ g h a w) (k : Nat) (hk : 32 ≤ k) (hk2 : k ≤ far) (hnext : h2.next = k) (hm : h.marks = []) (hm2 : h2.marks = []) (hfl : h2.floor = h.floor)
    (hobj : ∀ id o2, h2.get id = some o2 → id < k ∧ ∃ ob, h.get id = some ob ∧ ob.ren (past k) = o2) : Abs n w0 (pastE k ρ) (g.ren (past k)) h2 a w := by
  refine s.rename (past k) (pastE k ρ) (fun id r => past_env hk2) (fun id hid => if_pos (by omega)) hm hm2 (fun id o2 ho => ?_) fun id h1 h2 => ?_
  · obtain ⟨q1, ob, q2, q3⟩ := hobj id o2 ho
    exact ⟨by omega, id, ob, q2, q3, if_pos q1, fun q => by omega⟩
  · unfold pastE
    rw [if_neg (by omega), if_neg (by omega)]
end Go.Am

/- Calls in a heap of their own; rules of the evaluator for runs with unknown numbers. -/
namespace Go.Am

mutual
/-- no name of an object in it -/
def AV.pure : AV → Bool
  | .bool _ | .int _ _ | .str _ | .nilptr | .nilslice | .nilmap | .nilfunc => true
  | .agg l => pureL l
  | .tuple l => pureL l
  | _ => false
def pureL : List AV → Bool
  | [] => true
  | v :: l => v.pure && pureL l
end
mutual
theorem pure_den {ρ ρ' : Env} : ∀ (v : AV) (x : Value), v.pure = true → v.den ρ = some x → v.den ρ' = some x
  | .bool _, _, _, e | .int _ _, _, _, e | .str _, _, _, e | .nilptr, _, _, e | .nilslice, _, _, e | .nilmap, _, _, e | .nilfunc, _, _, e => by simpa [AV.den] using e
  | .agg l, x, h, e => by
    obtain ⟨xs, h1, rfl⟩ := den_agg.1 e
    exact den_agg.2 ⟨xs, pureL_den l xs h h1, rfl⟩
  | .tuple l, x, h, e => by
    obtain ⟨xs, h1, rfl⟩ := den_tuple.1 e
    exact den_tuple.2 ⟨xs, pureL_den l xs h h1, rfl⟩
theorem pureL_den {ρ ρ' : Env} : ∀ (l : List AV) (xs : List Value), pureL l = true → denL ρ l = some xs → denL ρ' l = some xs
  | [], _, _, e => by rw [denL_nil.1 e]; rfl
  | v :: l, xs, h, e => by
    obtain ⟨y, ys, h1, h2, rfl⟩ := denL_cons.1 e
    simp only [pureL, Bool.and_eq_true] at h
    exact denL_cons.2 ⟨y, ys, pure_den v y h.1 h1, pureL_den l ys h.2 h2, rfl⟩
end

/-- the heap in which a call of its own begins -/
def ownH : AH := ⟨32, 32, [], .nil⟩
/-- calls, some of which are made in a heap of their own -/
def ownC (fs : FuncId → Bool) (H : CallH) : CallH := fun Y f args h =>
  if fs f && pureL args then opt (H (fun _ => none) f args ownH) fun r => if r.1.pure then some (r.1, h) else none else H Y f args h

section
variable {P : Program}
theorem ownC_grow {fs : FuncId → Bool} {H : CallH} (hh : HGrow H) : HGrow (ownC fs H) := by
  intro Y hy f args h v h' he
  unfold ownC at he
  split at he
  · obtain ⟨⟨u, h1⟩, e1, e2⟩ := opt_some.1 he
    dsimp only at e2
    split at e2
    · injection e2 with e2
      injection e2 with e2 e3
      subst e3
      exact .refl _
    · cases e2
  · exact hh Y hy f args h v h' he
theorem ownC_sound {fs : FuncId → Bool} {H : CallH} (hH : HSound P H) : HSound P (ownC fs H) := by
  intro Y ρ hy hY f args h v h' w xs he hd hr hg hfr R hR
  unfold ownC at he
  split at he
  · rename_i hc
    simp only [Bool.and_eq_true] at hc
    obtain ⟨⟨u, h1⟩, q1, q2⟩ := opt_some.1 he
    dsimp only at q2
    split at q2
    · rename_i hp
      injection q2 with q2
      injection q2 with q2 q3
      subst q2 q3
      let ρ0 : Env := fun i => if i < 32 then ρ i else none
      have hg0 : GlobOk ρ0 := fun i hi => by
        obtain ⟨r, r1, r2⟩ := hg i hi
        exact ⟨r, (if_pos hi).trans r1, r2⟩
      have he0 : HRel ρ0 ownH w := by
        refine ⟨fun id o ho => ?_, fun i j oi oj ri rj hi => ?_, fun id o ho => ?_⟩
        · rw [ownH, AH.get, HT.get_nil] at ho; cases ho
        · rw [ownH, AH.get, HT.get_nil] at hi; cases hi
        · rw [ownH, AH.get, HT.get_nil] at ho; cases ho
      refine hH _ ρ0 (fun id fy args h v h' e => by cases e) (fun id fy e => by cases e) f args ownH _ _ w xs q1 (pureL_den args xs hc.2 hd) he0 hg0 (fun id h1 _ => if_neg (Nat.not_lt.2 h1)) R fun x w' ρ' hx ht => ?_
      refine hR x w' ρ (pure_den _ _ hp hx) (Trans.grown hr ht.size (fun b hb => ht.keep b hb ?_) ht.alike)
      rintro ⟨id, o, r, h1, _⟩
      rw [ownH, AH.get, HT.get_nil] at h1
      cases h1
    · cases q2
  · exact hH Y ρ hy hY f args h v h' w xs he hd hr hg hfr R hR

/-- the abstract machine for a law: one known call, calls in heaps of their own -/
noncomputable def evP (fs : FuncId → Bool) (aw : FuncId) (T : HT) (C : FuncId → Option AF) (lf : Nat) : Nat → CallH
  | 0 => fun _ _ _ _ => none
  | n + 1 => ownC fs (orc aw T (stepFn C lf (evP fs aw T C lf n)))

theorem evP_grow (fs : FuncId → Bool) (aw : FuncId) (T : HT) (C : FuncId → Option AF) (lf : Nat) : ∀ n, HGrow (evP fs aw T C lf n)
  | 0 => fun Y hy f args h v h' he => by cases he
  | n + 1 => ownC_grow (orc_grow (stepFn_grow C lf (evP_grow fs aw T C lf n)))
theorem evP_sound (hmix : P.follows .mixedOrders = true) {fs : FuncId → Bool} {C : FuncId → Option AF} (hC : ∀ f fn, C f = some fn → compFn P f = some fn) {aw : FuncId} {T : HT} (hk : Known P aw T) (lf : Nat) : ∀ n, HSound P (evP fs aw T C lf n)
  | 0 => fun Y ρ hy hY f args h v h' w xs he => by cases he
  | n + 1 => ownC_sound (orc_sound hk (stepFn_sound hmix hC lf (evP_sound hmix hC hk lf n) (evP_grow fs aw T C lf n)))

section
variable {fs : FuncId → Bool} {aw : FuncId} {T : HT} {C : FuncId → Option AF} {lf n : Nat} {Y : YH} {f : FuncId} {args : List AV} {h : AH}
theorem evP_known (h0 : fs aw = false) (ht : ∀ id o, T.get id = some o → h.get id = some o) : evP fs aw T C lf (n + 1) Y aw [] h = some (.bool true, h) := by
  have e : evP fs aw T C lf (n + 1) Y aw [] h = ownC fs (orc aw T (stepFn C lf (evP fs aw T C lf n))) Y aw [] h := by cases n <;> rfl
  rw [e]
  unfold ownC
  rw [h0, if_neg (by simp), orc_true ht]
theorem evP_step (h0 : fs f = false) (hf : f ≠ aw) : evP fs aw T C lf (n + 1) Y f args h = stepFn C lf (evP fs aw T C lf n) Y f args h := by
  have e : evP fs aw T C lf (n + 1) Y f args h = ownC fs (orc aw T (stepFn C lf (evP fs aw T C lf n))) Y f args h := by cases n <;> rfl
  rw [e]
  unfold ownC
  rw [h0, if_neg (by simp), orc_false hf]
theorem evP_own (h0 : fs f = true) (hf : f ≠ aw) (hp : pureL args = true) {v : AV} {h1 : AH} (he : stepFn C lf (evP fs aw T C lf n) (fun _ => none) f args ownH = some (v, h1)) (hv : v.pure = true) : evP fs aw T C lf (n + 1) Y f args h = some (v, h) := by
  have e : evP fs aw T C lf (n + 1) Y f args h = ownC fs (orc aw T (stepFn C lf (evP fs aw T C lf n))) Y f args h := by cases n <;> rfl
  rw [e]
  unfold ownC
  rw [if_pos (by rw [h0, hp]; rfl)]
  have : orc aw T (stepFn C lf (evP fs aw T C lf n)) (fun _ => none) f args ownH = some (v, h1) := by
    rw [orc_false hf]
    exact he
  rw [this]
  simp only [opt, hv, if_true]
end
end

/-! ### rules of the evaluator -/
section
variable {H : CallH} {lf : Nat} {rd : Bool} {Y : YH} {a b : AC} {s s1 : St} {x : AX} {r : Option (AX × St)}
theorem evSeq (h : evCode H lf rd Y a s = some (.normal, s1)) : evCode H lf rd Y (.seq a b) s = evCode H lf rd Y b s1 := by simp only [evCode, h]
theorem evSeqX (h : evCode H lf rd Y a s = some (x, s1)) (hx : x ≠ .normal) : evCode H lf rd Y (.seq a b) s = some (x, s1) := by
  simp only [evCode, h]
  cases x <;> first | exact absurd rfl hx | rfl
theorem evOpsC {l : List AOper} (h : evOps Y H l s = some s1) : evCode H lf rd Y (.ops l) s = some (.normal, s1) := by simp only [evCode, h, opt]
theorem evCondT {c : Opd} (h : c.ev s.1 = .bool true) : evCode H lf rd Y (.cond c a b) s = evCode H lf rd Y a s := by simp only [evCode, h]
theorem evCondF {c : Opd} (h : c.ev s.1 = .bool false) : evCode H lf rd Y (.cond c a b) s = evCode H lf rd Y b s := by simp only [evCode, h]
theorem evSkip : evCode H lf rd Y .skip s = some (.normal, s) := rfl
theorem evRet : evCode H lf rd Y .ret s = some (.ret, s) := rfl
theorem opsRun (k : Nat) {l : List AOper} (h : evOps Y H (l.take k) s = some s1) : evOps Y H l s = evOps Y H (l.drop k) s1 := by
  have : ∀ (l1 l2 : List AOper) (s s1 : St), evOps Y H l1 s = some s1 → evOps Y H (l1 ++ l2) s = evOps Y H l2 s1 := by
    intro l1
    induction l1 with
    | nil => intro l2 s s1 h; injection h with h; rw [← h]; rfl
    | cons o l1 ih =>
      intro l2 s s1 h
      rw [evOps_cons] at h
      obtain ⟨s2, e1, e2⟩ := opt_some.1 h
      rw [List.cons_append, evOps_cons, e1]
      exact ih l2 s2 s1 e2
  have q := this _ (l.drop k) _ _ h
  rwa [List.take_append_drop] at q
theorem opsOp {d : Option Nat} {op : AOp} {l : List AOper} {g : RT} {h h' : AH} {v : AV} (he : evOper Y H op g h = some (v, h')) : evOps Y H (⟨d, op, none⟩ :: l) (g, h) = evOps Y H l (setDst g d v, h') := by
  rw [evOps_cons]
  unfold evOne
  simp only [wants, if_true, he, opt]
theorem opsNil : evOps Y H [] s = some s := rfl
end

/-! ### registers, as a whole tree -/
def full : Nat → (Nat → AV) → RT
  | 0, _ => .nil
  | d + 1, f => .node (f 0) (full d fun m => f (2 * m + 1)) (full d fun m => f (2 * m + 2))
theorem full_get : ∀ (d i : Nat) (f : Nat → AV), i + 1 < 2 ^ d → (full d f).geti i = f i := by
  intro d
  induction d with
  | zero => intro i f h; simp at h
  | succ d ih =>
    intro i f h
    cases i with
    | zero => rfl
    | succ i =>
      unfold RT.geti
      rw [Pth.of_succ]
      rw [Nat.pow_succ] at h
      split
      · rename_i hm
        show (full d fun m => f (2 * m + 1)).geti (i / 2) = _
        rw [ih _ _ (by omega)]
        congr 1
        omega
      · rename_i hm
        show (full d fun m => f (2 * m + 2)).geti (i / 2) = _
        rw [ih _ _ (by omega)]
        congr 1
        omega
theorem full_out : ∀ (d i : Nat) (f : Nat → AV), 2 ^ d ≤ i + 1 → (full d f).geti i = undef := by
  intro d
  induction d with
  | zero => intro i f _; exact RT.geti_nil i
  | succ d ih =>
    intro i f h
    rw [Nat.pow_succ] at h
    cases i with
    | zero => have := Nat.two_pow_pos d; omega
    | succ i =>
      unfold RT.geti
      rw [Pth.of_succ]
      split
      · show (full d fun m => f (2 * m + 1)).geti (i / 2) = _
        exact ih _ _ (by omega)
      · show (full d fun m => f (2 * m + 2)).geti (i / 2) = _
        exact ih _ _ (by omega)
/-- the registers as a whole tree -/
theorem Abs.full {n : Nat} {w0 w : World} {ρ : Env} {g : RT} {h : AH} {a : Act} (s : Abs n w0 ρ g h a w) (d : Nat) (hd : n + 1 ≤ 2 ^ d) (f : Nat → AV) (hf : ∀ i, i < n → f i = g.geti i) (hf2 : ∀ i, n ≤ i → f i = undef) : Abs n w0 ρ (full d f) h a w := by
  refine ⟨⟨⟨fun i => ?_, s.fr.size⟩, s.fr.glob⟩, s.hr, s.still, s.own, s.fresh, s.marks⟩
  by_cases hi : i < n
  · rw [full_get _ _ _ (by omega), hf i hi]
    exact s.fr.reg i
  · have e : a.tmps.getD i Go.undef = Go.undef := by
      have := s.fr.size
      rw [Array.getD_eq_getD_getElem?, Array.getElem?_eq_none (by omega)]
      rfl
    rw [e]
    by_cases h2 : i + 1 < 2 ^ d
    · rw [full_get _ _ _ h2, hf2 i (by omega)]; rfl
    · rw [full_out _ _ _ (by omega)]; rfl
end Go.Am

/- More rules of the evaluator. -/
namespace Go.Am

/-- what a row of operations leaves -/
def runS (Y : YH) (H : CallH) (l : List AOper) (s : St) : St := (evOps Y H l s).getD s

def AC.l : AC → AC
  | .seq a _ => a | .cond _ a _ => a | .block _ a => a | .loop a => a | .rfun _ _ a _ => a | c => c
def AC.r : AC → AC
  | .seq _ b => b | .cond _ _ b => b | .rfun _ _ _ b => b | c => c
def AC.opl : AC → List AOper
  | .ops l => l
  | _ => []
def AC.cnd : AC → Opd
  | .cond c _ _ => c
  | _ => .r 0
def AC.isSeq : AC → Bool
  | .seq _ _ => true
  | _ => false
def AC.isOps : AC → Bool
  | .ops _ => true
  | _ => false
def AC.isCond : AC → Bool
  | .cond _ _ _ => true
  | _ => false
def AC.isBlock : AC → Nat → Bool
  | .block i _, j => Nat.beq i j
  | _, _ => false
def AC.isLoop : AC → Bool
  | .loop _ => true
  | _ => false

section
variable {H : CallH} {lf : Nat} {rd : Bool} {Y : YH}

theorem opsAt (k : Nat) {l : List AOper} {s : St} {g1 : RT} {h1 h2 : AH} {d : Option Nat} {op : AOp} {v : AV} (h0 : evOps Y H (l.take k) s = some (g1, h1)) (hk : l.drop k = ⟨d, op, none⟩ :: l.drop (k + 1))
    (he : evOper Y H op g1 h1 = some (v, h2)) : evOps Y H l s = evOps Y H (l.drop (k + 1)) (setDst g1 d v, h2) := by
  rw [opsRun k h0, hk, opsOp he]

theorem stepFn_of {C : FuncId → Option AF} {f : FuncId} {args : List AV} {h h1 : AH} {fn : AF} {g1 : RT} {x : AX} {vs : List AV} (hc : C f = some fn) (hl : Nat.ble args.length fn.nt = true)
    (he : evCode H lf false Y fn.body (argRegs args 0 .nil, { h with marks := [] }) = some (x, (g1, h1))) (hx : x = .normal ∨ x = .ret) (hm : h1.marks = []) (hv : evRVs g1 h1 fn.results = some vs) :
    stepFn C lf H Y f args h = some (retV vs, { h1 with marks := h.marks }) := by
  unfold stepFn
  rw [hc]
  simp only [opt]
  rw [if_neg (by have := Nat.le_of_ble_eq_true hl; omega), he]
  rcases hx with rfl | rfl
  · simp only [hm, takeMarks, hv]
  · simp only [hm, takeMarks, hv]

/-! rules with states that write themselves -/
theorem rSeg (k : Nat) {l : List AOper} {s : St} {r : Option St} (h : (evOps Y H (l.take k) s).isSome = true) (h2 : evOps Y H (l.drop k) (runS Y H (l.take k) s) = r) : evOps Y H l s = r := by
  cases e : evOps Y H (l.take k) s with
  | none => rw [e] at h; cases h
  | some s1 =>
    have : runS Y H (l.take k) s = s1 := by unfold runS; rw [e]; rfl
    rw [this] at h2
    rw [opsRun k e, h2]
theorem rEnd {l : List AOper} {s : St} (h : (evOps Y H l s).isSome = true) : evOps Y H l s = some (runS Y H l s) := by
  cases e : evOps Y H l s with
  | none => rw [e] at h; cases h
  | some s1 => unfold runS; rw [e]; rfl
theorem rOp (d : Option Nat) (op : AOp) {l : List AOper} {s : St} {v : AV} {h' : AH} {r : Option St} (hl : l.head? = some ⟨d, op, none⟩) (he : evOper Y H op s.1 s.2 = some (v, h')) (h2 : evOps Y H l.tail (setDst s.1 d v, h') = r) : evOps Y H l s = r := by
  cases l with
  | nil => cases hl
  | cons o l =>
    injection hl with hl
    subst hl
    obtain ⟨g, h⟩ := s
    rw [opsOp he]
    exact h2
theorem rCall (d : Option Nat) (f : FuncId) (args : List Opd) (vals : List AV) {l : List AOper} {s : St} {v : AV} {h' : AH} {r : Option St} (hl : l.head? = some ⟨d, .call f args, none⟩) (hv : args.map (·.ev s.1) = vals) (he : H Y f vals s.2 = some (v, h'))
    (h2 : evOps Y H l.tail (setDst s.1 d v, h') = r) : evOps Y H l s = r := by
  subst hv
  exact rOp d (.call f args) hl he h2

theorem kSeq {c : AC} {s s1 : St} {r : Option (AX × St)} (hc : c.isSeq = true) (h1 : evCode H lf rd Y c.l s = some (.normal, s1)) (h2 : evCode H lf rd Y c.r s1 = r) : evCode H lf rd Y c s = r := by
  cases c <;> first
    | (cases hc; done)
    | exact (evSeq h1).trans h2
theorem kOps {c : AC} {s s1 : St} (hc : c.isOps = true) (h : evOps Y H c.opl s = some s1) : evCode H lf rd Y c s = some (.normal, s1) := by
  cases c <;> first
    | (cases hc; done)
    | exact evOpsC h
theorem kCondT {c : AC} {s : St} {r : Option (AX × St)} (b : Bool) (hc : c.isCond = true) (h : c.cnd.ev s.1 = .bool b) (hb : b = true) (h2 : evCode H lf rd Y c.l s = r) : evCode H lf rd Y c s = r := by
  subst hb
  cases c <;> first
    | (cases hc; done)
    | exact (evCondT h).trans h2
theorem kCondF {c : AC} {s : St} {r : Option (AX × St)} (b : Bool) (hc : c.isCond = true) (h : c.cnd.ev s.1 = .bool b) (hb : b = false) (h2 : evCode H lf rd Y c.r s = r) : evCode H lf rd Y c s = r := by
  subst hb
  cases c <;> first
    | (cases hc; done)
    | exact (evCondF h).trans h2
def runC (H : CallH) (lf : Nat) (rd : Bool) (Y : YH) (c : AC) (s : St) : St := match evCode H lf rd Y c s with
  | some (_, s') => s'
  | none => s
theorem kRun {c : AC} {s : St} (x : AX) (h : (evCode H lf rd Y c s).map (·.1) = some x) : evCode H lf rd Y c s = some (x, runC H lf rd Y c s) := by
  unfold runC
  cases e : evCode H lf rd Y c s with
  | none => rw [e] at h; cases h
  | some r =>
    obtain ⟨y, s'⟩ := r
    rw [e] at h
    injection h with h
    rw [show x = y from h.symm]

/-- a function, by its body -/
theorem fnOf {C : FuncId → Option AF} {f : FuncId} {args : List AV} {h : AH} (fn : AF) {s1 : St} {x : AX} {v : AV} {h2 : AH} (hc : C f = some fn) (hl : Nat.ble args.length fn.nt = true)
    (he : evCode H lf false Y fn.body (argRegs args 0 .nil, { h with marks := [] }) = some (x, s1)) (hx : x = .normal ∨ x = .ret) (hm : s1.2.marks = []) (hv : (evRVs s1.1 s1.2 fn.results).map retV = some v) (hh : { s1.2 with marks := h.marks } = h2) :
    stepFn C lf H Y f args h = some (v, h2) := by
  obtain ⟨g1, h1⟩ := s1
  cases e : evRVs g1 h1 fn.results with
  | none => rw [e] at hv; cases hv
  | some vs =>
    rw [e] at hv
    injection hv with hv
    rw [stepFn_of hc hl he hx hm e, hv, hh]
end
end Go.Am

/- Operations on numbers, their results in words of one's own. -/
namespace Go.Am
section
variable {Y : YH} {H : CallH} {g : RT} {h : AH} {x y : Opd} {k : IntKind} {A B R : Int}
theorem bin_add (hx : x.ev g = .int k A) (hy : y.ev g = .int k B) (hr : k.wrap (A + B) = R) : evOper Y H (.bin .add x y) g h = some (.int k R, h) := by
  simp only [evOper, evOp, hx, hy, binV, if_true, intBin, opt, hr]
theorem bin_sub (hx : x.ev g = .int k A) (hy : y.ev g = .int k B) (hr : k.wrap (A - B) = R) : evOper Y H (.bin .sub x y) g h = some (.int k R, h) := by
  simp only [evOper, evOp, hx, hy, binV, if_true, intBin, opt, hr]
theorem bin_mul (hx : x.ev g = .int k A) (hy : y.ev g = .int k B) (hr : k.wrap (A * B) = R) : evOper Y H (.bin .mul x y) g h = some (.int k R, h) := by
  simp only [evOper, evOp, hx, hy, binV, if_true, intBin, opt, hr]
theorem bin_quo (hx : x.ev g = .int k A) (hy : y.ev g = .int k B) (h0 : B ≠ 0) (hr : k.wrap (A.tdiv B) = R) : evOper Y H (.bin .quo x y) g h = some (.int k R, h) := by
  simp only [evOper, evOp, hx, hy, binV, if_true, intBin, opt, if_neg h0, hr]
theorem bin_rem (hx : x.ev g = .int k A) (hy : y.ev g = .int k B) (h0 : B ≠ 0) (hr : A.tmod B = R) : evOper Y H (.bin .rem x y) g h = some (.int k R, h) := by
  simp only [evOper, evOp, hx, hy, binV, if_true, intBin, opt, if_neg h0, hr]
theorem bin_shl {k' : IntKind} (hx : x.ev g = .int k A) (hy : y.ev g = .int k' B) (h0 : 0 ≤ B) (hr : k.wrap (A * 2 ^ (min B.toNat k.bits)) = R) : evOper Y H (.bin .shl x y) g h = some (.int k R, h) := by
  simp only [evOper, evOp, hx, hy, binV, intShift, if_neg (Int.not_lt.2 h0), if_true, opt, hr]
theorem bin_shr {k' : IntKind} (hx : x.ev g = .int k A) (hy : y.ev g = .int k' B) (h0 : 0 ≤ B) (hr : A.fdiv (2 ^ (min B.toNat k.bits)) = R) : evOper Y H (.bin .shr x y) g h = some (.int k R, h) := by
  simp only [evOper, evOp, hx, hy, binV, intShift, if_neg (Int.not_lt.2 h0), Bool.false_eq_true, if_false, opt, hr]
theorem max_of (hx : x.ev g = .int k A) (hy : y.ev g = .int k B) (hr : max A B = R) : evOper Y H (.maxmin true x [y]) g h = some (.int k R, h) := by
  have e : (if B > A then B else A) = R := by rw [← hr]; split <;> omega
  simp only [evOper, evOp, maxs, two, hx, hy, if_true, opt, e]
theorem min_of (hx : x.ev g = .int k A) (hy : y.ev g = .int k B) (hr : min A B = R) : evOper Y H (.maxmin false x [y]) g h = some (.int k R, h) := by
  have e : (if B < A then B else A) = R := by rw [← hr]; split <;> omega
  simp only [evOper, evOp, maxs, two, hx, hy, Bool.false_eq_true, if_false, opt, e]
theorem toInt_of {k' : IntKind} (hx : x.ev g = .int k' A) (hr : k.wrap A = R) : evOper Y H (.toInt k x) g h = some (.int k R, h) := by
  simp only [evOper, evOp, hx, hr]
theorem pcall_of {f : FuncId} {args : List Opd} {vals : List AV} {v : AV} {h1 : AH} (hv : args.map (·.ev g) = vals) (hf : vals.all AV.flat = true) (he : H (fun _ => none) f vals ⟨32, 32, [], .nil⟩ = some (v, h1)) (hf2 : v.flat = true) : evOper Y H (.pcall f args) g h = some (v, h) := by
  simp only [evOper]
  rw [hv, if_pos hf, he]
  simp only [opt, hf2, if_true]
end
theorem u64_of {R : Int} (h0 : 0 ≤ R) (h1 : R < 18446744073709551616) : IntKind.u64.wrap R = R := by
  rw [IntKind.wrap_u64]
  omega
theorem i64_of {R : Int} (h0 : -9223372036854775808 ≤ R) (h1 : R < 9223372036854775808) : IntKind.i64.wrap R = R := by
  rw [IntKind.wrap_i64]
  omega
end Go.Am

/- The abstract machine once more, written for the kernel: each value is forced before it is handed on; no branch of a case holds a variable from outside. -/
namespace Go.Am

abbrev KN := Nat → Bool
abbrev KI := Int → Bool
abbrev K1 := AV → Bool
abbrev KL := List AV → Bool
abbrev K2 := AV → AH → Bool
abbrev KG := RT → AH → Bool
abbrev KX := AX → RT → AH → Bool
abbrev KA := AH → Bool

noncomputable def fNat (n : Nat) : KN → Bool := @Nat.rec (fun _ => KN → Bool) (fun k => k 0) (fun m _ k => k (Nat.succ m)) n
noncomputable def fIf (b : Bool) : Bool → Bool → Bool := @Bool.rec (fun _ => Bool → Bool → Bool) (fun _ y => y) (fun x _ => x) b
noncomputable def fBool (b : Bool) : (Bool → Bool) → Bool := @Bool.rec (fun _ => (Bool → Bool) → Bool) (fun k => k false) (fun k => k true) b
noncomputable def fInt (n : Int) : KI → Bool :=
  @Int.rec (fun _ => KI → Bool) (fun a => @Nat.rec (fun _ => KI → Bool) (fun k => k (.ofNat 0)) (fun m _ k => k (.ofNat (Nat.succ m))) a)
    (fun a => @Nat.rec (fun _ => KI → Bool) (fun k => k (.negSucc 0)) (fun m _ k => k (.negSucc (Nat.succ m))) a) n
noncomputable def fOfNat (n : Nat) : KI → Bool := @Nat.rec (fun _ => KI → Bool) (fun k => k (.ofNat 0)) (fun m _ k => k (.ofNat (Nat.succ m))) n
noncomputable def fNegSucc (n : Nat) : KI → Bool := @Nat.rec (fun _ => KI → Bool) (fun k => k (.negSucc 0)) (fun m _ k => k (.negSucc (Nat.succ m))) n

/-! ### whole numbers: kinds in the order i8 i16 i32 i64 u8 u16 u32 u64 -/
noncomputable def pow2 (k : IntKind) : Nat := @IntKind.rec (fun _ => Nat) 256 65536 4294967296 18446744073709551616 256 65536 4294967296 18446744073709551616 k
noncomputable def half (k : IntKind) : Nat := @IntKind.rec (fun _ => Nat) 128 32768 2147483648 9223372036854775808 256 65536 4294967296 18446744073709551616 k
noncomputable def bitsN (k : IntKind) : Nat := @IntKind.rec (fun _ => Nat) 8 16 32 64 8 16 32 64 k
noncomputable def fBits (k : IntKind) (n : Int) : KN → Bool :=
  @Int.rec (fun _ => Nat → KN → Bool) (fun a p => fNat (Nat.mod a p)) (fun a p => fNat (Nat.sub (Nat.sub p 1) (Nat.mod a p))) n (pow2 k)
noncomputable def fOf (k : IntKind) (m : Nat) : KI → Bool :=
  @Bool.rec (fun _ => IntKind → Nat → KI → Bool) (fun _ m => fOfNat m) (fun k m => fNegSucc (Nat.sub (Nat.sub (pow2 k) m) 1)) (Nat.ble (half k) m) k m
noncomputable def fWrap (k : IntKind) (n : Int) (c : KI) : Bool := fBits k n fun m => fOf k m c
noncomputable def fLt (x y : Int) : Bool :=
  @Int.rec (fun _ => Int → Bool) (fun a y => @Int.rec (fun _ => Nat → Bool) (fun b a => Nat.blt a b) (fun _ _ => false) y a)
    (fun a y => @Int.rec (fun _ => Nat → Bool) (fun _ _ => true) (fun b a => Nat.blt b a) y a) x y
noncomputable def fEq (x y : Int) : Bool :=
  @Int.rec (fun _ => Int → Bool) (fun a y => @Int.rec (fun _ => Nat → Bool) (fun b a => Nat.beq a b) (fun _ _ => false) y a)
    (fun a y => @Int.rec (fun _ => Nat → Bool) (fun _ _ => false) (fun b a => Nat.beq a b) y a) x y
noncomputable def fNot (b : Bool) : Bool := @Bool.rec (fun _ => Bool) true false b

/-! ### values -/
noncomputable def fCap (c : Cap) : (Cap → Bool) → Bool := @Cap.rec (fun _ => (Cap → Bool) → Bool) (fun n k => fNat n fun n => k (.fixed n)) (fun n k => fNat n fun n => k (.upto n)) c
noncomputable def fVal (v : AV) : K1 → Bool :=
  (@AV.rec (fun _ => K1 → Bool) (fun _ => PUnit) (fun b k => fBool b fun b => k (.bool b)) (fun kd n k => fInt n fun n => k (.int kd n)) (fun s k => k (.str s)) (fun a b k => fNat a fun a => fNat b fun b => k (.ptr a b)) (fun k => k .nilptr) (fun a b c d k => fNat a fun a => fNat b fun b => fNat c fun c => fCap d fun d => k (.slice a b c d)) (fun k => k .nilslice) (fun a k => fNat a fun a => k (.map a)) (fun k => k .nilmap) (fun f a b _ _ k => k (.func f a b)) (fun k => k .nilfunc) (fun l _ k => k (.agg l)) (fun l _ k => k (.tuple l)) PUnit.unit (fun _ _ _ _ => PUnit.unit)) v
noncomputable def fList (l : List AV) : KL → Bool :=
  @List.rec AV (fun _ => KL → Bool) (fun k => k []) (fun x _ ih k => fVal x fun x => ih fun xs => k (x :: xs)) l
noncomputable def fAV (v : AV) : K1 → Bool :=
  (@AV.rec (fun _ => K1 → Bool) (fun _ => PUnit) (fun b k => fBool b fun b => k (.bool b)) (fun kd n k => fInt n fun n => k (.int kd n)) (fun s k => k (.str s)) (fun a b k => fNat a fun a => fNat b fun b => k (.ptr a b)) (fun k => k .nilptr) (fun a b c d k => fNat a fun a => fNat b fun b => fNat c fun c => fCap d fun d => k (.slice a b c d)) (fun k => k .nilslice) (fun a k => fNat a fun a => k (.map a)) (fun k => k .nilmap) (fun f a b _ _ k => k (.func f a b)) (fun k => k .nilfunc) (fun l _ k => fList l fun l => k (.agg l)) (fun l _ k => fList l fun l => k (.tuple l)) PUnit.unit (fun _ _ _ _ => PUnit.unit)) v

/-! ### registers -/
noncomputable def fGet (p : Pth) : RT → K1 → Bool :=
  @Pth.rec (fun _ => RT → K1 → Bool)
    (fun g => @RT.rec (fun _ => K1 → Bool) (fun k => k undef) (fun v _ _ _ _ k => k v) g)
    (fun _ ih g => @RT.rec (fun _ => (RT → K1 → Bool) → K1 → Bool) (fun _ k => k undef) (fun _ a _ _ _ ih => ih a) g ih)
    (fun _ ih g => @RT.rec (fun _ => (RT → K1 → Bool) → K1 → Bool) (fun _ k => k undef) (fun _ _ b _ _ ih => ih b) g ih) p
abbrev KS := RT → AV → (RT → Bool) → Bool
noncomputable def fSet (p : Pth) : KS :=
  @Pth.rec (fun _ => KS)
    (fun g => @RT.rec (fun _ => AV → (RT → Bool) → Bool) (fun v k => k (.node v .nil .nil)) (fun _ a b _ _ v k => k (.node v a b)) g)
    (fun _ ih g => @RT.rec (fun _ => KS → AV → (RT → Bool) → Bool) (fun ih v k => ih .nil v fun a => k (.node undef a .nil)) (fun x a b _ _ ih v k => ih a v fun a => k (.node x a b)) g ih)
    (fun _ ih g => @RT.rec (fun _ => KS → AV → (RT → Bool) → Bool) (fun ih v k => ih .nil v fun b => k (.node undef .nil b)) (fun x a b _ _ ih v k => ih b v fun b => k (.node x a b)) g ih) p
noncomputable def fOpd (o : Opd) : RT → K1 → Bool := @Opd.rec (fun _ => RT → K1 → Bool) (fun i => fGet (Pth.of i)) (fun v _ k => k v) o
noncomputable def fOpds (l : List Opd) : RT → KL → Bool :=
  @List.rec Opd (fun _ => RT → KL → Bool) (fun _ k => k []) (fun x _ ih g k => fOpd x g fun v => ih g fun vs => k (v :: vs)) l
noncomputable def fDst (d : Option Nat) : AV → RT → (RT → Bool) → Bool :=
  @Option.rec Nat (fun _ => AV → RT → (RT → Bool) → Bool) (fun _ g k => k g) (fun i v g k => fSet (Pth.of i) g v k) d

/-! ### the heap -/
abbrev KO := Option AO → Bool
noncomputable def fHGet (t : HT) : Nat → KO → Bool :=
  @HT.rec (fun _ => Nat → KO → Bool) (fun _ k => k none)
    (fun o _ _ ihl ihr n => @Nat.rec (fun _ => Option AO → (Nat → KO → Bool) → (Nat → KO → Bool) → KO → Bool) (fun o _ _ k => k o)
      (fun m _ _ ihl ihr => @Nat.rec (fun _ => (Nat → KO → Bool) → (Nat → KO → Bool) → Nat → KO → Bool) (fun ihl _ => ihl) (fun _ _ _ ihr => ihr) (Nat.mod m 2) ihl ihr (Nat.div m 2)) n o ihl ihr) t
abbrev KT := HT → Bool
abbrev FS := HT → Nat → Option AO → KT → Bool
noncomputable def fHSet (fuel : Nat) : FS :=
  @Nat.rec (fun _ => FS)
    (fun t n x k => @Nat.rec (fun _ => HT → Option AO → KT → Bool) (fun t => @HT.rec (fun _ => Option AO → KT → Bool) (fun x k => k (.node x .nil .nil)) (fun _ l r _ _ x k => k (.node x l r)) t) (fun _ _ t _ k => k t) n t x k)
    (fun _ ih t => @HT.rec (fun _ => FS → Nat → Option AO → KT → Bool)
      (fun ih n => @Nat.rec (fun _ => FS → Option AO → KT → Bool) (fun _ x k => k (.node x .nil .nil))
        (fun m _ ih x k => @Nat.rec (fun _ => FS → Nat → Option AO → KT → Bool) (fun ih d x k => ih .nil d x fun a => k (.node none a .nil)) (fun _ _ ih d x k => ih .nil d x fun a => k (.node none .nil a)) (Nat.mod m 2) ih (Nat.div m 2) x k) n ih)
      (fun o l r _ _ ih n => @Nat.rec (fun _ => FS → Option AO → HT → HT → Option AO → KT → Bool) (fun _ _ l r x k => k (.node x l r))
        (fun m _ ih o l r x k => @Nat.rec (fun _ => FS → Option AO → HT → HT → Nat → Option AO → KT → Bool) (fun ih o l r d x k => ih l d x fun a => k (.node o a r)) (fun _ _ ih o l r d x k => ih r d x fun a => k (.node o l a)) (Nat.mod m 2) ih o l r (Nat.div m 2) x k) n ih o l r) t ih) fuel
/-- a constant that is unfolded: the kernel goes on from there, and not within -/
noncomputable def fTick (k : KT) (t : HT) : Bool := k t
noncomputable def fHT (t : HT) : KT → Bool :=
  @HT.rec (fun _ => KT → Bool) (fun k => k .nil) (fun o _ _ ihl ihr k => @Option.rec AO (fun _ => (KT → Bool) → (KT → Bool) → KT → Bool) (fun ihl ihr k => ihl fun l => ihr fun r => fTick k (.node none l r)) (fun o ihl ihr k => ihl fun l => ihr fun r => fTick k (.node (some o) l r)) o ihl ihr k) t

noncomputable def fPut (h : AH) : Nat → Option AO → KA → Bool :=
  @AH.rec (fun _ => Nat → Option AO → KA → Bool) (fun n f ms t id o k => fIf (Nat.ble f id) (fHSet (Nat.succ id) t id o fun t => k ⟨n, f, ms, t⟩) false) h
noncomputable def fNew (h : AH) : AO → (Nat → AH → Bool) → Bool :=
  @AH.rec (fun _ => AO → (Nat → AH → Bool) → Bool) (fun n f ms t o k => fHSet (Nat.succ n) t n (some o) fun t => fNat (Nat.succ n) fun n' => k n ⟨n', f, ms, t⟩) h
noncomputable def fAt (h : AH) : Nat → (AO → Bool) → Bool :=
  @AH.rec (fun _ => Nat → (AO → Bool) → Bool) (fun _ _ _ t id k => fHGet t id fun o => @Option.rec AO (fun _ => (AO → Bool) → Bool) (fun _ => false) (fun o k => k o) o k) h
abbrev KR := Nat → List AV → RK → Bool
noncomputable def fRow (h : AH) (id : Nat) (k : KR) : Bool :=
  fAt h id fun o => @AO.rec (fun _ => KR → Bool) (fun e cs kd k => k e cs kd) (fun _ _ _ => false) (fun _ _ _ => false) (fun _ _ => false) o k

noncomputable def fNth (l : List AV) : Nat → K1 → Bool :=
  @List.rec AV (fun _ => Nat → K1 → Bool) (fun _ _ => false) (fun x _ ih i => @Nat.rec (fun _ => AV → (Nat → K1 → Bool) → K1 → Bool) (fun x _ k => k x) (fun j _ _ ih => ih j) i x ih) l
noncomputable def fTake (n : Nat) : List AV → KL → Bool :=
  @Nat.rec (fun _ => List AV → KL → Bool) (fun _ k => k []) (fun _ ih l => @List.rec AV (fun _ => (List AV → KL → Bool) → KL → Bool) (fun _ _ => false) (fun x xs _ ih k => ih xs fun r => k (x :: r)) l ih) n
noncomputable def fDrop (l : List AV) : Nat → KL → Bool :=
  @List.rec AV (fun _ => Nat → KL → Bool) (fun i => @Nat.rec (fun _ => KL → Bool) (fun k => k []) (fun _ _ _ => false) i)
    (fun x xs ih i => @Nat.rec (fun _ => AV → List AV → (Nat → KL → Bool) → KL → Bool) (fun x xs _ k => k (x :: xs)) (fun j _ _ _ ih => ih j) i x xs ih) l
noncomputable def fCells (h : AH) (id off n : Nat) (k : KL) : Bool :=
  @Nat.rec (fun _ => AH → Nat → Nat → Nat → KL → Bool) (fun _ _ _ _ k => k []) (fun _ _ h id off n k => fRow h id fun _ cs _ => fDrop cs off fun cs => fTake n cs k) n h id off n k
noncomputable def fOne (v : AV) : Bool := (@AV.rec (fun _ => Bool) (fun _ => PUnit) (fun _ => true) (fun _ _ => true) (fun _ => true) (fun _ _ => true) (true) (fun _ _ _ _ => true) (true) (fun _ => true) (true) (fun _ _ _ _ _ => true) (true) (fun _ _ => false) (fun _ _ => false) PUnit.unit (fun _ _ _ _ => PUnit.unit)) v
noncomputable def fOver (vs : List AV) : List AV → KL → Bool :=
  @List.rec AV (fun _ => List AV → KL → Bool) (fun l k => k l)
    (fun v _ ih l => @List.rec AV (fun _ => AV → (List AV → KL → Bool) → KL → Bool) (fun _ _ _ => false) (fun _ xs _ v ih k => fIf (fOne v) (ih xs fun r => k (v :: r)) false) l v ih) vs
noncomputable def fSplice (cs : List AV) : Nat → List AV → KL → Bool :=
  @List.rec AV (fun _ => Nat → List AV → KL → Bool)
    (fun i => @Nat.rec (fun _ => List AV → KL → Bool) (fun vs => fOver vs []) (fun _ _ _ _ => false) i)
    (fun x xs ih i => @Nat.rec (fun _ => AV → List AV → (Nat → List AV → KL → Bool) → List AV → KL → Bool) (fun x xs _ vs => fOver vs (x :: xs)) (fun j _ x _ ih vs k => ih j vs fun r => k (x :: r)) i x xs ih) cs
noncomputable def fWrite (h : AH) (id off : Nat) (vs : List AV) (k : KA) : Bool :=
  @List.rec AV (fun _ => AH → Nat → Nat → List AV → KA → Bool) (fun h _ _ _ k => k h) (fun _ _ _ h id off vs k => fRow h id fun e cs kd =>
    fSplice cs off vs fun cs => @RK.rec (fun _ => AH → Nat → Nat → List AV → KA → Bool) (fun h id e cs => fPut h id (some (.row e cs .closed))) (fun h id e cs => fPut h id (some (.row e cs .open_))) (fun _ _ _ _ _ => false) kd h id e cs k) vs h id off vs k

/-! ### operations on values -/
abbrev FI := IntKind → Int → Int → K1 → Bool
noncomputable def fBit (f : Nat → Nat → Nat) (k : IntKind) (x y : Int) (c : K1) : Bool := fBits k x fun a => fBits k y fun b => fNat (f a b) fun m => fOf k m fun n => c (.int k n)
noncomputable def fIntBin (op : BinOp) : FI := @BinOp.rec (fun _ => FI)
  (fun k x y c => fWrap k (Int.add x y) fun n => c (.int k n))
  (fun k x y c => fWrap k (Int.sub x y) fun n => c (.int k n))
  (fun k x y c => fWrap k (Int.mul x y) fun n => c (.int k n))
  (fun k x y c => fIf (fEq y 0) false (fWrap k (Int.tdiv x y) fun n => c (.int k n)))
  (fun k x y c => fIf (fEq y 0) false (fInt (Int.tmod x y) fun n => c (.int k n)))
  (fBit Nat.land) (fBit Nat.lor) (fBit Nat.xor)
  (fun _ _ _ _ => false) (fun _ _ _ _ => false)
  (fun k x y c => fBits k x fun a => fBits k y fun b => fNat (Nat.land a (Nat.sub (Nat.sub (pow2 k) 1) b)) fun m => fOf k m fun n => c (.int k n))
  (fun _ x y c => fBool (fEq x y) fun b => c (.bool b))
  (fun _ x y c => fBool (fNot (fEq x y)) fun b => c (.bool b))
  (fun _ x y c => fBool (fLt x y) fun b => c (.bool b))
  (fun _ x y c => fBool (fNot (fLt y x)) fun b => c (.bool b))
  (fun _ x y c => fBool (fLt y x) fun b => c (.bool b))
  (fun _ x y c => fBool (fNot (fLt x y)) fun b => c (.bool b)) op
noncomputable def fShl (k : IntKind) (x y : Int) : K1 → Bool :=
  @Int.rec (fun _ => IntKind → Int → K1 → Bool) (fun b k x c => fNat (@Bool.rec (fun _ => Nat → Nat → Nat) (fun a _ => a) (fun _ b => b) (Nat.ble b (bitsN k)) (bitsN k) b) fun b =>
    fWrap k (Int.mul x (.ofNat (Nat.pow 2 b))) fun n => c (.int k n)) (fun _ _ _ _ => false) y k x
noncomputable def fShr (k : IntKind) (x y : Int) : K1 → Bool :=
  @Int.rec (fun _ => IntKind → Int → K1 → Bool) (fun b k x c => fNat (@Bool.rec (fun _ => Nat → Nat → Nat) (fun a _ => a) (fun _ b => b) (Nat.ble b (bitsN k)) (bitsN k) b) fun b =>
    @Int.rec (fun _ => Nat → IntKind → K1 → Bool) (fun a b k c => fOfNat (Nat.div a (Nat.pow 2 b)) fun n => c (.int k n)) (fun a b k c => fNegSucc (Nat.div a (Nat.pow 2 b)) fun n => c (.int k n)) x b k c) (fun _ _ _ _ => false) y k x
abbrev FK := Bool
noncomputable def fKind (a b : IntKind) : Bool := Nat.beq (@IntKind.rec (fun _ => Nat) 0 1 2 3 4 5 6 7 a) (@IntKind.rec (fun _ => Nat) 0 1 2 3 4 5 6 7 b)
noncomputable def fO (o : Option AV) : K1 → Bool := @Option.rec AV (fun _ => K1 → Bool) (fun _ => false) (fun v => fAV v) o
/-- the shifts apart, all else on numbers of one kind -/
noncomputable def fInts (op : BinOp) : IntKind → IntKind → Int → Int → K1 → Bool := @BinOp.rec (fun op => IntKind → IntKind → Int → Int → K1 → Bool)
  (fun k k' x y c => fIf (fKind k k') (fIntBin .add k x y c) false)
  (fun k k' x y c => fIf (fKind k k') (fIntBin .sub k x y c) false)
  (fun k k' x y c => fIf (fKind k k') (fIntBin .mul k x y c) false)
  (fun k k' x y c => fIf (fKind k k') (fIntBin .quo k x y c) false)
  (fun k k' x y c => fIf (fKind k k') (fIntBin .rem k x y c) false)
  (fun k k' x y c => fIf (fKind k k') (fIntBin .and k x y c) false)
  (fun k k' x y c => fIf (fKind k k') (fIntBin .or k x y c) false)
  (fun k k' x y c => fIf (fKind k k') (fIntBin .xor k x y c) false)
  (fun k _ x y => fShl k x y)
  (fun k _ x y => fShr k x y)
  (fun k k' x y c => fIf (fKind k k') (fIntBin .andNot k x y c) false)
  (fun k k' x y c => fIf (fKind k k') (fIntBin .eql k x y c) false)
  (fun k k' x y c => fIf (fKind k k') (fIntBin .neq k x y c) false)
  (fun k k' x y c => fIf (fKind k k') (fIntBin .lss k x y c) false)
  (fun k k' x y c => fIf (fKind k k') (fIntBin .leq k x y c) false)
  (fun k k' x y c => fIf (fKind k k') (fIntBin .gtr k x y c) false)
  (fun k k' x y c => fIf (fKind k k') (fIntBin .geq k x y c) false) op
noncomputable def fBinV (op : BinOp) (x y : AV) (c : K1) : Bool :=
  (@AV.rec (fun _ => BinOp → AV → AV → K1 → Bool) (fun _ => PUnit) (fun _ => fun op x y => fO (binV op x y)) (fun k a op x y => (@AV.rec (fun _ => BinOp → IntKind → Int → AV → AV → K1 → Bool) (fun _ => PUnit) (fun _ => fun op _ _ x y => fO (binV op x y)) (fun k' b op k a _ _ => fInts op k k' a b) (fun _ => fun op _ _ x y => fO (binV op x y)) (fun _ _ => fun op _ _ x y => fO (binV op x y)) (fun op _ _ x y => fO (binV op x y)) (fun _ _ _ _ => fun op _ _ x y => fO (binV op x y)) (fun op _ _ x y => fO (binV op x y)) (fun _ => fun op _ _ x y => fO (binV op x y)) (fun op _ _ x y => fO (binV op x y)) (fun _ _ _ _ _ => fun op _ _ x y => fO (binV op x y)) (fun op _ _ x y => fO (binV op x y)) (fun _ _ => fun op _ _ x y => fO (binV op x y)) (fun _ _ => fun op _ _ x y => fO (binV op x y)) PUnit.unit (fun _ _ _ _ => PUnit.unit)) y op k a x y) (fun _ => fun op x y => fO (binV op x y)) (fun _ _ => fun op x y => fO (binV op x y)) (fun op x y => fO (binV op x y)) (fun _ _ _ _ => fun op x y => fO (binV op x y)) (fun op x y => fO (binV op x y)) (fun _ => fun op x y => fO (binV op x y)) (fun op x y => fO (binV op x y)) (fun _ _ _ _ _ => fun op x y => fO (binV op x y)) (fun op x y => fO (binV op x y)) (fun _ _ => fun op x y => fO (binV op x y)) (fun _ _ => fun op x y => fO (binV op x y)) PUnit.unit (fun _ _ _ _ => PUnit.unit)) x op x y c
noncomputable def fIdx (i : AV) : Nat → KN → Bool :=
  (@AV.rec (fun _ => Nat → KN → Bool) (fun _ => PUnit) (fun _ => fun _ _ => false) (fun _ n => @Int.rec (fun _ => Nat → KN → Bool) (fun n len k => fIf (Nat.blt n len) (k n) false) (fun _ _ _ => false) n) (fun _ => fun _ _ => false) (fun _ _ => fun _ _ => false) (fun _ _ => false) (fun _ _ _ _ => fun _ _ => false) (fun _ _ => false) (fun _ => fun _ _ => false) (fun _ _ => false) (fun _ _ _ _ _ => fun _ _ => false) (fun _ _ => false) (fun _ _ => fun _ _ => false) (fun _ _ => fun _ _ => false) PUnit.unit (fun _ _ _ _ => PUnit.unit)) i
noncomputable def fTwo (isMax : Bool) (a b : AV) (c : K1) : Bool :=
  (@AV.rec (fun _ => Bool → AV → K1 → Bool) (fun _ => PUnit) (fun _ => fun _ _ _ => false) (fun k x m b => (@AV.rec (fun _ => Bool → IntKind → Int → K1 → Bool) (fun _ => PUnit) (fun _ => fun _ _ _ _ => false) (fun _ y m k x c => fIf (fIf m (fLt x y) (fLt y x)) (c (.int k y)) (c (.int k x))) (fun _ => fun _ _ _ _ => false) (fun _ _ => fun _ _ _ _ => false) (fun _ _ _ _ => false) (fun _ _ _ _ => fun _ _ _ _ => false) (fun _ _ _ _ => false) (fun _ => fun _ _ _ _ => false) (fun _ _ _ _ => false) (fun _ _ _ _ _ => fun _ _ _ _ => false) (fun _ _ _ _ => false) (fun _ _ => fun _ _ _ _ => false) (fun _ _ => fun _ _ _ _ => false) PUnit.unit (fun _ _ _ _ => PUnit.unit)) b m k x) (fun _ => fun _ _ _ => false) (fun _ _ => fun _ _ _ => false) (fun _ _ _ => false) (fun _ _ _ _ => fun _ _ _ => false) (fun _ _ _ => false) (fun _ => fun _ _ _ => false) (fun _ _ _ => false) (fun _ _ _ _ _ => fun _ _ _ => false) (fun _ _ _ => false) (fun _ _ => fun _ _ _ => false) (fun _ _ => fun _ _ _ => false) PUnit.unit (fun _ _ _ _ => PUnit.unit)) a isMax b c

/-! ### operations -/
abbrev FO := RT → AH → K2 → Bool
noncomputable def fMv (x : Opd) : FO := fun g h k => fOpd x g fun v => k v h
noncomputable def fPick (c a b : Opd) : FO := fun g h k => fOpd c g fun c =>
  (@AV.rec (fun _ => Opd → Opd → RT → AH → K2 → Bool) (fun _ => PUnit) (fun c a b g h k => fIf c (fOpd a g fun v => k v h) (fOpd b g fun v => k v h)) (fun _ _ => fun _ _ _ _ _ => false) (fun _ => fun _ _ _ _ _ => false) (fun _ _ => fun _ _ _ _ _ => false) (fun _ _ _ _ _ => false) (fun _ _ _ _ => fun _ _ _ _ _ => false) (fun _ _ _ _ _ => false) (fun _ => fun _ _ _ _ _ => false) (fun _ _ _ _ _ => false) (fun _ _ _ _ _ => fun _ _ _ _ _ => false) (fun _ _ _ _ _ => false) (fun _ _ => fun _ _ _ _ _ => false) (fun _ _ => fun _ _ _ _ _ => false) PUnit.unit (fun _ _ _ _ => PUnit.unit)) c a b g h k
noncomputable def fBin (op : BinOp) (x y : Opd) : FO := fun g h k => fOpd x g fun a => fOpd y g fun b => fBinV op a b fun v => k v h
noncomputable def fPure (o : AOp) : FO := fun g h k => @Option.rec (AV × AH) (fun _ => AH → K2 → Bool) (fun _ _ => false) (fun r h k => fAV r.1 fun v => k v h) (evOp o g h) h k
noncomputable def fPure' (o : AOp) : FO := fun g h k => @Option.rec (AV × AH) (fun _ => AH → K2 → Bool) (fun _ _ => false) (fun r h k => fAV r.1 fun v => fNat r.2.next fun n => k v ⟨n, h.floor, h.marks, h.tr⟩) (evOp o g h) h k
noncomputable def fUn (op : UnOp) (x : Opd) : FO := fun g h k => fOpd x g fun v => fO (unV op v) fun v => k v h
noncomputable def fToInt (kd : IntKind) (x : Opd) : FO := fun g h k => fOpd x g fun v =>
  (@AV.rec (fun _ => IntKind → AH → K2 → Bool) (fun _ => PUnit) (fun _ => fun _ _ _ => false) (fun _ n kd h k => fWrap kd n fun n => k (.int kd n) h) (fun _ => fun _ _ _ => false) (fun _ _ => fun _ _ _ => false) (fun _ _ _ => false) (fun _ _ _ _ => fun _ _ _ => false) (fun _ _ _ => false) (fun _ => fun _ _ _ => false) (fun _ _ _ => false) (fun _ _ _ _ _ => fun _ _ _ => false) (fun _ _ _ => false) (fun _ _ => fun _ _ _ => false) (fun _ _ => fun _ _ _ => false) PUnit.unit (fun _ _ _ _ => PUnit.unit)) v kd h k
noncomputable def fLoad1 (x : Opd) : FO := fun g h k => fOpd x g fun v =>
  (@AV.rec (fun _ => AH → K2 → Bool) (fun _ => PUnit) (fun _ => fun _ _ => false) (fun _ _ => fun _ _ => false) (fun _ => fun _ _ => false) (fun id off h k => fRow h id fun _ cs _ => fNth cs off fun v => k v h) (fun _ _ => false) (fun _ _ _ _ => fun _ _ => false) (fun _ _ => false) (fun _ => fun _ _ => false) (fun _ _ => false) (fun _ _ _ _ _ => fun _ _ => false) (fun _ _ => false) (fun _ _ => fun _ _ => false) (fun _ _ => fun _ _ => false) PUnit.unit (fun _ _ _ _ => PUnit.unit)) v h k
noncomputable def fLoadN (n : Nat) (x : Opd) : FO := fun g h k => fOpd x g fun v =>
  (@AV.rec (fun _ => Nat → AH → K2 → Bool) (fun _ => PUnit) (fun _ => fun _ _ _ => false) (fun _ _ => fun _ _ _ => false) (fun _ => fun _ _ _ => false) (fun id off n h k => fCells h id off n fun cs => k (.agg cs) h) (fun _ _ _ => false) (fun _ _ _ _ => fun _ _ _ => false) (fun _ _ _ => false) (fun _ => fun _ _ _ => false) (fun _ _ _ => false) (fun _ _ _ _ _ => fun _ _ _ => false) (fun _ _ _ => false) (fun _ _ => fun _ _ _ => false) (fun _ _ => fun _ _ _ => false) PUnit.unit (fun _ _ _ _ => PUnit.unit)) v n h k
noncomputable def fLn (l : List AV) : Nat → Bool := @List.rec AV (fun _ => Nat → Bool) (fun n => Nat.beq n 0) (fun _ _ ih n => @Nat.rec (fun _ => (Nat → Bool) → Bool) (fun _ => false) (fun m _ ih => ih m) n ih) l
noncomputable def fCellsOf (v : AV) : KL → Bool := (@AV.rec (fun _ => AV → KL → Bool) (fun _ => PUnit) (fun _ => fun v k => k [v]) (fun _ _ => fun v k => k [v]) (fun _ => fun v k => k [v]) (fun _ _ => fun v k => k [v]) (fun v k => k [v]) (fun _ _ _ _ => fun v k => k [v]) (fun v k => k [v]) (fun _ => fun v k => k [v]) (fun v k => k [v]) (fun _ _ _ _ _ => fun v k => k [v]) (fun v k => k [v]) (fun l _ _ k => k l) (fun _ _ => fun v k => k [v]) PUnit.unit (fun _ _ _ _ => PUnit.unit)) v v
noncomputable def fStore (n : Nat) (x v : Opd) : FO := fun g h k => fOpd x g fun a => fOpd v g fun v =>
  (@AV.rec (fun _ => Nat → AV → AH → K2 → Bool) (fun _ => PUnit) (fun _ => fun _ _ _ _ => false) (fun _ _ => fun _ _ _ _ => false) (fun _ => fun _ _ _ _ => false) (fun id off n v h k => fCellsOf v fun vs => fIf (fLn vs n) (fWrite h id off vs fun h => k undef h) false) (fun _ _ _ _ => false) (fun _ _ _ _ => fun _ _ _ _ => false) (fun _ _ _ _ => false) (fun _ => fun _ _ _ _ => false) (fun _ _ _ _ => false) (fun _ _ _ _ _ => fun _ _ _ _ => false) (fun _ _ _ _ => false) (fun _ _ => fun _ _ _ _ => false) (fun _ _ => fun _ _ _ _ => false) PUnit.unit (fun _ _ _ _ => PUnit.unit)) a n v h k
noncomputable def fField (off : Nat) (x : Opd) : FO := fun g h k => fOpd x g fun v =>
  (@AV.rec (fun _ => Nat → AH → K2 → Bool) (fun _ => PUnit) (fun _ => fun _ _ _ => false) (fun _ _ => fun _ _ _ => false) (fun _ => fun _ _ _ => false) (fun id o off h k => fNat (Nat.add o off) fun o => k (.ptr id o) h) (fun _ _ _ => false) (fun _ _ _ _ => fun _ _ _ => false) (fun _ _ _ => false) (fun _ => fun _ _ _ => false) (fun _ _ _ => false) (fun _ _ _ _ _ => fun _ _ _ => false) (fun _ _ _ => false) (fun _ _ => fun _ _ _ => false) (fun _ _ => fun _ _ _ => false) PUnit.unit (fun _ _ _ _ => PUnit.unit)) v off h k
noncomputable def fIndexArr (len e : Nat) (x i : Opd) : FO := fun g h k => fOpd x g fun v => fOpd i g fun i =>
  (@AV.rec (fun _ => Nat → Nat → AV → AH → K2 → Bool) (fun _ => PUnit) (fun _ => fun _ _ _ _ _ => false) (fun _ _ => fun _ _ _ _ _ => false) (fun _ => fun _ _ _ _ _ => false) (fun id off len e i h k => fIdx i len fun j => fNat (Nat.add off (Nat.mul j e)) fun o => k (.ptr id o) h) (fun _ _ _ _ _ => false) (fun _ _ _ _ => fun _ _ _ _ _ => false) (fun _ _ _ _ _ => false) (fun _ => fun _ _ _ _ _ => false) (fun _ _ _ _ _ => false) (fun _ _ _ _ _ => fun _ _ _ _ _ => false) (fun _ _ _ _ _ => false) (fun _ _ => fun _ _ _ _ _ => false) (fun _ _ => fun _ _ _ _ _ => false) PUnit.unit (fun _ _ _ _ => PUnit.unit)) v len e i h k
noncomputable def fIndexSl (e : Nat) (x i : Opd) : FO := fun g h k => fOpd x g fun v => fOpd i g fun i =>
  (@AV.rec (fun _ => Nat → AV → AH → K2 → Bool) (fun _ => PUnit) (fun _ => fun _ _ _ _ => false) (fun _ _ => fun _ _ _ _ => false) (fun _ => fun _ _ _ _ => false) (fun _ _ => fun _ _ _ _ => false) (fun _ _ _ _ => false) (fun id off len _ e i h k => fIdx i len fun j => fNat (Nat.add off (Nat.mul j e)) fun o => k (.ptr id o) h) (fun _ _ _ _ => false) (fun _ => fun _ _ _ _ => false) (fun _ _ _ _ => false) (fun _ _ _ _ _ => fun _ _ _ _ => false) (fun _ _ _ _ => false) (fun _ _ => fun _ _ _ _ => false) (fun _ _ => fun _ _ _ _ => false) PUnit.unit (fun _ _ _ _ => PUnit.unit)) v e i h k
noncomputable def fExtract (i : Nat) (x : Opd) : FO := fun g h k => fOpd x g fun v =>
  (@AV.rec (fun _ => Nat → AH → K2 → Bool) (fun _ => PUnit) (fun _ => fun _ _ _ => false) (fun _ _ => fun _ _ _ => false) (fun _ => fun _ _ _ => false) (fun _ _ => fun _ _ _ => false) (fun _ _ _ => false) (fun _ _ _ _ => fun _ _ _ => false) (fun _ _ _ => false) (fun _ => fun _ _ _ => false) (fun _ _ _ => false) (fun _ _ _ _ _ => fun _ _ _ => false) (fun _ _ _ => false) (fun _ _ => fun _ _ _ => false) (fun vs _ i h k => fNth vs i fun v => k v h) PUnit.unit (fun _ _ _ _ => PUnit.unit)) v i h k
noncomputable def fNilCheck (x : Opd) : FO := fun g h k => fOpd x g fun v =>
  (@AV.rec (fun _ => AH → K2 → Bool) (fun _ => PUnit) (fun _ => fun _ _ => false) (fun _ _ => fun _ _ => false) (fun _ => fun _ _ => false) (fun a b h k => k (.ptr a b) h) (fun _ _ => false) (fun _ _ _ _ => fun _ _ => false) (fun _ _ => false) (fun _ => fun _ _ => false) (fun _ _ => false) (fun f a b _ _ h k => fPure (.nilCheck (.c (.func f a b))) .nil h k) (fun _ _ => false) (fun _ _ => fun _ _ => false) (fun _ _ => fun _ _ => false) PUnit.unit (fun _ _ _ _ => PUnit.unit)) v h k
noncomputable def fHeavy (o : AOp) : FO := fun g h k => @Option.rec (AV × AH) (fun _ => K2 → Bool) (fun _ => false)
  (fun r k => fAV r.1 fun v => fNat r.2.next fun nx => fHT r.2.tr fun t => k v ⟨nx, r.2.floor, r.2.marks, t⟩) (evOp o g h) k
noncomputable def fAllOne (l : List AV) : Bool := @List.rec AV (fun _ => Bool) true (fun v _ ih => fIf (fOne v) ih false) l
noncomputable def fParts (ps : List (Nat × Nat × Opd)) : RT → (List (Nat × Nat × AV) → Bool) → Bool :=
  @List.rec (Nat × Nat × Opd) (fun _ => RT → (List (Nat × Nat × AV) → Bool) → Bool) (fun _ k => k []) (fun p _ ih g k => fOpd p.2.2 g fun v => ih g fun l => k ((p.1, p.2.1, v) :: l)) ps
noncomputable def fBuildSlice (e len : Nat) (zero : List AV) (parts : List (Nat × Nat × Opd)) : FO := fun g h k => fParts parts g fun ps =>
  @Option.rec (List AV) (fun _ => Nat → Nat → AH → K2 → Bool) (fun _ _ _ _ => false) (fun cs e len h k => fList cs fun cs => fIf (fAllOne cs) (fNew h (.row e cs .closed) fun id h => k (.slice id 0 len (.fixed len)) h) false) (fillParts (rep len zero) ps) e len h k
noncomputable def fBuild (zero : List AV) (parts : List (Nat × Nat × Opd)) : FO := fun g h k => fParts parts g fun ps =>
  @Option.rec (List AV) (fun _ => AH → K2 → Bool) (fun _ _ => false) (fun cs h k => fList cs fun cs => k (.agg cs) h) (fillParts zero ps) h k
noncomputable def fBox (n : Nat) (x : Opd) : FO := fun g h k => fOpd x g fun v => fCellsOf v fun vs => fIf (fLn vs n) (fIf (fAllOne vs) (fNew h (.row 1 vs .closed) fun id h => k (.ptr id 0) h) false) false
noncomputable def fAlloc (zero : List AV) : FO := fun _ h k => fNew h (.row 1 zero .closed) fun id h => k (.ptr id 0) h
noncomputable def fFirst (v : AV) : AH → Nat → Nat → KL → Bool :=
  (@AV.rec (fun _ => AH → Nat → Nat → KL → Bool) (fun _ => PUnit) (fun _ => fun _ _ _ _ => false) (fun _ _ => fun _ _ _ _ => false) (fun s _ e n c => fIf (Nat.beq e 1) (fList ((s.take n).map byteAV) c) false) (fun _ _ => fun _ _ _ _ => false) (fun _ _ _ _ => false) (fun id off _ _ h e n c => fNat (Nat.mul n e) fun m => fCells h id off m c) (fun _ _ _ c => c []) (fun _ => fun _ _ _ _ => false) (fun _ _ _ _ => false) (fun _ _ _ _ _ => fun _ _ _ _ => false) (fun _ _ _ _ => false) (fun _ _ => fun _ _ _ _ => false) (fun _ _ => fun _ _ _ _ => false) PUnit.unit (fun _ _ _ _ => PUnit.unit)) v
noncomputable def fLenV (v : AV) : KN → Bool := (@AV.rec (fun _ => KN → Bool) (fun _ => PUnit) (fun _ => fun _ => false) (fun _ _ => fun _ => false) (fun s c => fNat s.length c) (fun _ _ => fun _ => false) (fun _ => false) (fun _ _ n _ c => c n) (fun c => c 0) (fun _ => fun _ => false) (fun _ => false) (fun _ _ _ _ _ => fun _ => false) (fun _ => false) (fun _ _ => fun _ => false) (fun _ _ => fun _ => false) PUnit.unit (fun _ _ _ _ => PUnit.unit)) v
noncomputable def fApp (a : List AV) : List AV → KL → Bool := @List.rec AV (fun _ => List AV → KL → Bool) (fun b c => c b) (fun x _ ih b c => ih b fun r => c (x :: r)) a
noncomputable def fGrow (e bytes need : Nat) (old new : List AV) (h : AH) (k : K2) : Bool :=
  fIf (capBound need bytes) (fIf (fAllOne new) (fApp old new fun cs => fNew h (.row e cs .open_) fun id h => k (.slice id 0 need (.upto 0)) h) false) false
abbrev FA := Nat → Nat → Nat → List AV → AH → K2 → Bool
noncomputable def fAppFix (id off len c : Nat) : FA := fun e bytes n new h k => fNat (Nat.add len n) fun need => fIf (Nat.ble need c)
      (fNat (Nat.add off (Nat.mul len e)) fun o => fWrite h id o new fun h => k (.slice id off need (.fixed c)) h)
      (fNat (Nat.mul len e) fun m => fCells h id off m fun old => fGrow e bytes need old new h k)
noncomputable def fAppUp (id off len lo : Nat) : FA := fun e bytes n new h k =>
  @Nat.rec (fun _ => Nat → Nat → Nat → Nat → FA) (fun id off len lo e _ _ _ h k => fIf (Nat.ble len (capOf h id lo e)) (k (.slice id off len (.upto lo)) h) false)
    (fun _ _ id off len lo e bytes n new h k => fRow h id fun e' cs kd => fIf (@RK.rec (fun _ => Bool) false true false kd)
      (fIf (Nat.beq e' e) (fIf (Nat.beq off (Nat.mul lo e)) (fNat (Nat.add len n) fun need => fIf (capBound need bytes) (fIf (fAllOne new)
        (fIf (Nat.ble (Nat.mul (Nat.add lo need) e) cs.length)
          (fNat (Nat.add off (Nat.mul len e)) fun o => fWrite h id o new fun h => k (.slice id off need (.upto lo)) h)
          (fNat (Nat.mul len e) fun m => fCells h id off m fun old => fPut h id none fun h => fGrow e bytes need old new h k)) false) false) false) false) false) n id off len lo e bytes n new h k
noncomputable def fAppend1 (s : AV) : FA :=
  (@AV.rec (fun _ => FA) (fun _ => PUnit) (fun _ => fun _ _ _ _ _ _ => false) (fun _ _ => fun _ _ _ _ _ _ => false) (fun _ => fun _ _ _ _ _ _ => false) (fun _ _ => fun _ _ _ _ _ _ => false) (fun _ _ _ _ _ _ => false) (fun id off len cp => @Cap.rec (fun _ => Nat → Nat → Nat → FA) (fun c id off len => fAppFix id off len c) (fun lo id off len => fAppUp id off len lo) cp id off len) (fun e bytes n new h k => @Nat.rec (fun _ => FA) (fun _ _ _ _ h k => k .nilslice h) (fun _ _ e bytes n new h k => fGrow e bytes n [] new h k) n e bytes n new h k) (fun _ => fun _ _ _ _ _ _ => false) (fun _ _ _ _ _ _ => false) (fun _ _ _ _ _ => fun _ _ _ _ _ _ => false) (fun _ _ _ _ _ _ => false) (fun _ _ => fun _ _ _ _ _ _ => false) (fun _ _ => fun _ _ _ _ _ _ => false) PUnit.unit (fun _ _ _ _ => PUnit.unit)) s
noncomputable def fAppend (e bytes : Nat) (x y : Opd) : FO := fun g h k => fOpd x g fun s => fOpd y g fun t => fLenV t fun n => fFirst t h e n fun new => fAppend1 s e bytes n new h k
noncomputable def fCopy (e : Nat) (x y : Opd) : FO := fun g h k => fOpd x g fun s => fOpd y g fun t =>
  (@AV.rec (fun _ => Nat → AV → AH → K2 → Bool) (fun _ => PUnit) (fun _ => fun _ _ _ _ => false) (fun _ _ => fun _ _ _ _ => false) (fun _ => fun _ _ _ _ => false) (fun _ _ => fun _ _ _ _ => false) (fun _ _ _ _ => false) (fun id off dlen _ e t h k => fLenV t fun sl => fNat (@Bool.rec (fun _ => Nat → Nat → Nat) (fun a _ => a) (fun _ b => b) (Nat.ble sl dlen) dlen sl) fun n => fFirst t h e n fun cs => fWrite h id off cs fun h => k (.int .i64 (.ofNat n)) h) (fun _ t h k => fLenV t fun _ => k (.int .i64 (.ofNat 0)) h) (fun _ => fun _ _ _ _ => false) (fun _ _ _ _ => false) (fun _ _ _ _ _ => fun _ _ _ _ => false) (fun _ _ _ _ => false) (fun _ _ => fun _ _ _ _ => false) (fun _ _ => fun _ _ _ _ => false) PUnit.unit (fun _ _ _ _ => PUnit.unit)) s e t h k
noncomputable def fMaxs (ys : List Opd) : Bool → RT → AV → K1 → Bool := @List.rec Opd (fun _ => Bool → RT → AV → K1 → Bool) (fun _ _ v k => k v) (fun y _ ih m g v k => fOpd y g fun w => fTwo m v w fun v => ih m g v k) ys
noncomputable def fMaxmin (m : Bool) (x : Opd) (ys : List Opd) : FO := fun g h k => fOpd x g fun v => fMaxs ys m g v fun v => k v h
noncomputable def fInt2 (a b : AV) : (Nat → Nat → Bool) → Bool :=
  (@AV.rec (fun _ => AV → (Nat → Nat → Bool) → Bool) (fun _ => PUnit) (fun _ => fun _ _ => false) (fun _ n => @Int.rec (fun _ => AV → (Nat → Nat → Bool) → Bool) (fun l c => (@AV.rec (fun _ => Nat → (Nat → Nat → Bool) → Bool) (fun _ => PUnit) (fun _ => fun _ _ => false) (fun _ n => @Int.rec (fun _ => Nat → (Nat → Nat → Bool) → Bool) (fun c l k => k l c) (fun _ _ _ => false) n) (fun _ => fun _ _ => false) (fun _ _ => fun _ _ => false) (fun _ _ => false) (fun _ _ _ _ => fun _ _ => false) (fun _ _ => false) (fun _ => fun _ _ => false) (fun _ _ => false) (fun _ _ _ _ _ => fun _ _ => false) (fun _ _ => false) (fun _ _ => fun _ _ => false) (fun _ _ => fun _ _ => false) PUnit.unit (fun _ _ _ _ => PUnit.unit)) c l) (fun _ _ _ => false) n) (fun _ => fun _ _ => false) (fun _ _ => fun _ _ => false) (fun _ _ => false) (fun _ _ _ _ => fun _ _ => false) (fun _ _ => false) (fun _ => fun _ _ => false) (fun _ _ => false) (fun _ _ _ _ _ => fun _ _ => false) (fun _ _ => false) (fun _ _ => fun _ _ => false) (fun _ _ => fun _ _ => false) PUnit.unit (fun _ _ _ _ => PUnit.unit)) a b
noncomputable def fMakeSlice (e bytes : Nat) (zero : List AV) (l c : Opd) : FO := fun g h k => fOpd l g fun l => fOpd c g fun c => fInt2 l c fun l c =>
  fIf (Nat.ble l c) (fIf (Nat.ble (Nat.mul c (Nat.succ bytes)) 1099511627776) (fList (rep c zero) fun cs => fNew h (.row e cs .closed) fun id h => k (.slice id 0 l (.fixed c)) h) false) false
noncomputable def fMakeMap : FO := fun _ h k => fNew h (.map [] 0) fun id h => k (.map id) h
noncomputable def fMakeFunc (fn : Fn) (a b : List Opd) : FO := fun g h k => fOpds a g fun a => fOpds b g fun b => k (.func fn a b) h
noncomputable def fOp (o : AOp) : FO := @AOp.rec (fun _ => FO)
  fMv
  fPick
  fBin
  (fun x0 x1 x2 x3 x4 => fPure (.eql x0 x1 x2 x3 x4))
  (fun x0 x1 x2 x3 => fPure (.eqnil x0 x1 x2 x3))
  fUn
  fToInt
  (fun x0 => fPure (.same x0))
  (fun x0 => fHeavy (.sameSl x0))
  (fun x0 => fHeavy (.bytesOf x0))
  (fun x0 => fPure (.strOf x0))
  fLoad1
  fLoadN
  fStore
  fField
  fIndexArr
  fIndexSl
  (fun x0 x1 => fPure (.indexStr x0 x1))
  (fun x0 x1 x2 x3 x4 => fPure (.indexAgg x0 x1 x2 x3 x4))
  (fun x0 x1 x2 x3 => fPure (.part x0 x1 x2 x3))
  fExtract
  fNilCheck
  (fun x0 x1 x2 x3 x4 x5 => fPure' (.sliceSl x0 x1 x2 x3 x4 x5))
  (fun x0 x1 x2 x3 x4 x5 => fPure (.sliceArr x0 x1 x2 x3 x4 x5))
  (fun x0 x1 x2 => fPure (.sliceStr x0 x1 x2))
  fBuild
  fBuildSlice
  fBox
  fAlloc
  fMakeSlice
  fMakeMap
  fMakeFunc
  (fun x0 x1 x2 x3 x4 x5 => fPure (.lookup x0 x1 x2 x3 x4 x5))
  (fun x0 x1 x2 x3 x4 => fHeavy (.mapUpdate x0 x1 x2 x3 x4))
  (fun x0 x1 => fPure (.len x0 x1))
  (fun x0 => fPure (.cap x0))
  fAppend
  (fun x0 x1 x2 x3 x4 => fHeavy (.appendZ x0 x1 x2 x3 x4))
  fCopy
  fMaxmin
  (fun x0 x1 => fPure (.toArr x0 x1))
  (fun x0 x1 x2 => fPure (.add64 x0 x1 x2))
  (fun x0 x1 => fun _ _ _ => false)
  (fun x0 x1 => fun _ _ _ => false)
  (fun x0 x1 => fun _ _ _ => false)
  (fun x0 => fun _ _ _ => false) o

/-! ### calls, rows of operations -/
abbrev FC := List AV → AH → K2 → Bool
abbrev FY := Nat → Option FC
abbrev FH := FY → FuncId → FC
abbrev FO2 := FY → FH → FO
noncomputable def noY : FY := fun _ => none
noncomputable def fCallV (v : AV) : FY → FH → List AV → AH → K2 → Bool :=
  (@AV.rec (fun _ => FY → FH → List AV → AH → K2 → Bool) (fun _ => PUnit) (fun _ => fun _ _ _ _ _ => false) (fun _ _ => fun _ _ _ _ _ => false) (fun _ => fun _ _ _ _ _ => false) (fun _ _ => fun _ _ _ _ _ => false) (fun _ _ _ _ _ => false) (fun _ _ _ _ => fun _ _ _ _ _ => false) (fun _ _ _ _ _ => false) (fun _ => fun _ _ _ _ _ => false) (fun _ _ _ _ _ => false) (fun f first captured _ _ => @Fn.rec (fun _ => List AV → List AV → FY → FH → List AV → AH → K2 → Bool)
    (fun i first captured Y H vs h k => fApp vs captured fun l => fApp first l fun l => H Y i l h k)
    (fun _ _ _ _ _ _ _ _ => false) (fun _ _ _ _ _ _ _ _ _ => false) (fun _ _ _ _ _ _ _ _ _ _ _ => false)
    (fun l first captured Y _ vs h k => fIf (Nat.beq (first.length) 0) (fIf (Nat.beq (captured.length) 0) (@Option.rec FC (fun _ => List AV → AH → K2 → Bool) (fun _ _ _ => false) (fun f => f) (Y l) vs h k) false) false) f first captured) (fun _ _ _ _ _ => false) (fun _ _ => fun _ _ _ _ _ => false) (fun _ _ => fun _ _ _ _ _ => false) PUnit.unit (fun _ _ _ _ => PUnit.unit)) v
noncomputable def fOper (o : AOp) : FO2 := @AOp.rec (fun _ => FO2)
  (fun x0 _ _ => fOp (.mv x0))
  (fun x0 x1 x2 _ _ => fOp (.pick x0 x1 x2))
  (fun x0 x1 x2 _ _ => fOp (.bin x0 x1 x2))
  (fun x0 x1 x2 x3 x4 _ _ => fOp (.eql x0 x1 x2 x3 x4))
  (fun x0 x1 x2 x3 _ _ => fOp (.eqnil x0 x1 x2 x3))
  (fun x0 x1 _ _ => fOp (.un x0 x1))
  (fun x0 x1 _ _ => fOp (.toInt x0 x1))
  (fun x0 _ _ => fOp (.same x0))
  (fun x0 _ _ => fOp (.sameSl x0))
  (fun x0 _ _ => fOp (.bytesOf x0))
  (fun x0 _ _ => fOp (.strOf x0))
  (fun x0 _ _ => fOp (.load1 x0))
  (fun x0 x1 _ _ => fOp (.loadN x0 x1))
  (fun x0 x1 x2 _ _ => fOp (.store x0 x1 x2))
  (fun x0 x1 _ _ => fOp (.fieldAt x0 x1))
  (fun x0 x1 x2 x3 _ _ => fOp (.indexArr x0 x1 x2 x3))
  (fun x0 x1 x2 _ _ => fOp (.indexSl x0 x1 x2))
  (fun x0 x1 _ _ => fOp (.indexStr x0 x1))
  (fun x0 x1 x2 x3 x4 _ _ => fOp (.indexAgg x0 x1 x2 x3 x4))
  (fun x0 x1 x2 x3 _ _ => fOp (.part x0 x1 x2 x3))
  (fun x0 x1 _ _ => fOp (.extract x0 x1))
  (fun x0 _ _ => fOp (.nilCheck x0))
  (fun x0 x1 x2 x3 x4 x5 _ _ => fOp (.sliceSl x0 x1 x2 x3 x4 x5))
  (fun x0 x1 x2 x3 x4 x5 _ _ => fOp (.sliceArr x0 x1 x2 x3 x4 x5))
  (fun x0 x1 x2 _ _ => fOp (.sliceStr x0 x1 x2))
  (fun x0 x1 _ _ => fOp (.build x0 x1))
  (fun x0 x1 x2 x3 _ _ => fOp (.buildSlice x0 x1 x2 x3))
  (fun x0 x1 _ _ => fOp (.box x0 x1))
  (fun x0 _ _ => fOp (.alloc x0))
  (fun x0 x1 x2 x3 x4 _ _ => fOp (.makeSlice x0 x1 x2 x3 x4))
  (fun _ _ => fOp .makeMap)
  (fun x0 x1 x2 _ _ => fOp (.makeFunc x0 x1 x2))
  (fun x0 x1 x2 x3 x4 x5 _ _ => fOp (.lookup x0 x1 x2 x3 x4 x5))
  (fun x0 x1 x2 x3 x4 _ _ => fOp (.mapUpdate x0 x1 x2 x3 x4))
  (fun x0 x1 _ _ => fOp (.len x0 x1))
  (fun x0 _ _ => fOp (.cap x0))
  (fun x0 x1 x2 x3 _ _ => fOp (.append x0 x1 x2 x3))
  (fun x0 x1 x2 x3 x4 _ _ => fOp (.appendZ x0 x1 x2 x3 x4))
  (fun x0 x1 x2 _ _ => fOp (.copy x0 x1 x2))
  (fun x0 x1 x2 _ _ => fOp (.maxmin x0 x1 x2))
  (fun x0 x1 _ _ => fOp (.toArr x0 x1))
  (fun x0 x1 x2 _ _ => fOp (.add64 x0 x1 x2))
  (fun f args Y H g h k => fOpds args g fun vs => H Y f vs h k)
  (fun f args _ H g h k => fOpds args g fun vs => fIf (vs.all AV.flat) (H noY f vs ⟨32, 32, [], .nil⟩ fun v _ => fIf v.flat (k v h) false) false)
  (fun f args Y H g h k => fOpd f g fun fv => fOpds args g fun vs => fCallV fv Y H vs h k)
  (fun x0 _ _ => fOp (.bad x0)) o

noncomputable def fIs (v : AV) : Bool → Bool := (@AV.rec (fun _ => Bool → Bool) (fun _ => PUnit) (fun c w => fIf c w (fNot w)) (fun _ _ => fun _ => false) (fun _ => fun _ => false) (fun _ _ => fun _ => false) (fun _ => false) (fun _ _ _ _ => fun _ => false) (fun _ => false) (fun _ => fun _ => false) (fun _ => false) (fun _ _ _ _ _ => fun _ => false) (fun _ => false) (fun _ _ => fun _ => false) (fun _ _ => fun _ => false) PUnit.unit (fun _ _ _ _ => PUnit.unit)) v
noncomputable def fWants (gd : Option (Nat × Bool)) : RT → (Bool → Bool) → Bool :=
  @Option.rec (Nat × Bool) (fun _ => RT → (Bool → Bool) → Bool) (fun _ k => k true) (fun p => @Prod.rec Nat Bool (fun _ => RT → (Bool → Bool) → Bool) (fun i w g k => fGet (Pth.of i) g fun v => fBool (fIs v w) k) p) gd
noncomputable def fOps (l : List AOper) : FY → FH → RT → AH → KG → Bool :=
  @List.rec AOper (fun _ => FY → FH → RT → AH → KG → Bool) (fun _ _ g h k => k g h)
    (fun o _ ih => @AOper.rec (fun _ => (FY → FH → RT → AH → KG → Bool) → FY → FH → RT → AH → KG → Bool)
      (fun d op gd => @Option.rec (Nat × Bool) (fun _ => Option Nat → AOp → (FY → FH → RT → AH → KG → Bool) → FY → FH → RT → AH → KG → Bool)
        (fun d op ih Y H g h k => fOper op Y H g h fun v h => fDst d v g fun g => ih Y H g h k)
        (fun p d op ih Y H g h k => fWants (some p) g fun b => fIf b (fOper op Y H g h fun v h => fDst d v g fun g => ih Y H g h k) (fDst d undef g fun g => ih Y H g h k)) gd d op) o ih) l
noncomputable def fAH (h : AH) : KA → Bool := @AH.rec (fun _ => KA → Bool) (fun nx fl ms t k => fNat nx fun nx => fNat fl fun fl => fHT t fun t => k ⟨nx, fl, ms, t⟩) h
abbrev KM := RT → AH → List (List Rng × List Rng) → Bool
abbrev FM := FY → FH → RT → AH → List (List Rng × List Rng) → KM → Bool
noncomputable def fMulti1 (kd : Nat) (op : AOp) (Y : FY) (H : FH) (g : RT) (h : AH) (k : AV → AH → List Rng × List Rng → Bool) : Bool :=
  fIf (Nat.beq kd 0) (fOper op Y H g h fun v _ => k v h ([], []))
  (fIf (Nat.beq kd 5) (fOper op Y H g h fun v h => k v h ([], []))
  (fIf (Nat.beq kd 4) (fIf (Nat.blt h.next h.floor) false (fOper op Y H g { h with floor := h.next } fun v h' => fAH { h' with floor := h.floor } fun hm => k v hm ([(0, h.next)], [(h.next, h'.next)])))
  (fAH (h.only (usesOf g op)) fun hs => fOper op Y H g hs fun v h' => fAH (h.merge h' (usesOf g op)) fun hm =>
    k v hm ((usesOf g op).map one, (if kd = 3 then (usesOf g op).map one else []) ++ [(h.next, h'.next)]))))
noncomputable def fMulti (l : List (Nat × AOper)) : FM :=
  @List.rec (Nat × AOper) (fun _ => FM) (fun _ _ g h acc k => k g h acc)
    (fun o _ ih Y H g h acc k => fWants o.2.guard g fun b => fIf b
      (fMulti1 o.1 o.2.op Y H g h fun v h' a => fDst o.2.dst v g fun g => ih Y H g h' (a :: acc) k)
      (fDst o.2.dst undef g fun g => ih Y H g h (([], []) :: acc) k)) l

abbrev FX := RT → AH → KX → Bool
noncomputable def fIter (n : Nat) : FX → FX :=
  @Nat.rec (fun _ => FX → FX) (fun _ _ _ _ => false)
    (fun _ ih f g h k => f g h fun x g h => @AX.rec (fun _ => (FX → FX) → FX → FX) (fun ih f g h k => ih f g h k) (fun id _ _ g h k => k (.exit id) g h) (fun _ _ g h k => k .ret g h) x ih f g h k) n
abbrev FE := FH → Nat → Bool → FY → FX
noncomputable def fRound (l : Nat) (ps : List Nat) (g : RT) (fa fb : FX) : FC := fun args h k =>
  match h.get l with
  | some (.loop .ready _) => match setAll ps args g with
    | some g' => fa g' { h with marks := [] } fun x g' h' => match x with
      | .normal => match h'.get l with
        | some (.loop .ready p) => fPut h' l (some (.loop .busy p)) fun h' =>
          fb g' h' fun x _ h' => fIf h'.marks.isEmpty (match endRound l x h' with
            | some r => fAH r.2 fun h' => k r.1 { h' with marks := h.marks }
            | none => false) false
        | _ => false
      | _ => false
    | none => false
  | _ => false
noncomputable def fRfun (ps : List Nat) (fa fb : FY → FX) (H : FH) (Y : FY) (fv : AV) : FX := fun g h k =>
  match fv with
  | .func (.func i) first captured =>
    fNew h (.dfr false) fun d h => fNew h (.loop .ready none) fun l h =>
    fApp first (.func (.yield l) [] [] :: captured) fun args =>
    H (fun j => if j = l then some (fRound l ps g (fa Y) (fb Y)) else Y j) i args h fun _ h =>
    match h.get l with
    | some (.loop st p) => match st with
      | .busy => false
      | _ => fPut h l (some (.loop .exhausted p)) fun h => match p with
        | none => k .normal g { h with marks := d :: h.marks }
        | some x => k x g { h with marks := d :: h.marks }
    | _ => false
  | _ => false

noncomputable def fCode (c : AC) : FE :=
  @AC.rec (fun _ => FE)
    (fun _ _ _ _ g h k => k .normal g h)
    (fun l H _ _ Y g h k => fOps l Y H g h fun g h => k .normal g h)
    (fun l ps H _ _ Y g h k => fMulti l Y H g h [] fun g h acc => fIf (pairsOk acc.reverse ps) (k .normal g h) false)
    (fun _ _ iha ihb H lf rd Y g h k => iha H lf rd Y g h fun x g h => @AX.rec (fun _ => FE → FH → Nat → Bool → FY → FX) (fun ihb H lf rd Y g h k => ihb H lf rd Y g h k) (fun id _ _ _ _ _ g h k => k (.exit id) g h) (fun _ _ _ _ _ g h k => k .ret g h) x ihb H lf rd Y g h k)
    (fun c _ _ iha ihb H lf rd Y g h k => fOpd c g fun v => (@AV.rec (fun _ => FE → FE → FE) (fun _ => PUnit) (fun b iha ihb H lf rd Y g h k => fIf b (iha H lf rd Y g h k) (ihb H lf rd Y g h k)) (fun _ _ => fun _ _ _ _ _ _ _ _ _ => false) (fun _ => fun _ _ _ _ _ _ _ _ _ => false) (fun _ _ => fun _ _ _ _ _ _ _ _ _ => false) (fun _ _ _ _ _ _ _ _ _ => false) (fun _ _ _ _ => fun _ _ _ _ _ _ _ _ _ => false) (fun _ _ _ _ _ _ _ _ _ => false) (fun _ => fun _ _ _ _ _ _ _ _ _ => false) (fun _ _ _ _ _ _ _ _ _ => false) (fun _ _ _ _ _ => fun _ _ _ _ _ _ _ _ _ => false) (fun _ _ _ _ _ _ _ _ _ => false) (fun _ _ => fun _ _ _ _ _ _ _ _ _ => false) (fun _ _ => fun _ _ _ _ _ _ _ _ _ => false) PUnit.unit (fun _ _ _ _ => PUnit.unit)) v iha ihb H lf rd Y g h k)
    (fun id _ ih H lf rd Y g h k => ih H lf rd Y g h fun x g h => @AX.rec (fun _ => Nat → RT → AH → KX → Bool) (fun _ g h k => k .normal g h) (fun i id g h k => fIf (Nat.beq i id) (k .normal g h) (k (.exit i) g h)) (fun _ g h k => k .ret g h) x id g h k)
    (fun _ ih H lf rd Y => fIter lf (ih H lf rd Y))
    (fun f ps _ _ iha ihb H lf rd Y g h k => fIf rd false (fOpd f g fun fv => fRfun ps (iha H lf true) (ihb H lf true) H Y fv g h k))
    (fun id _ _ _ _ g h k => k (.exit id) g h)
    (fun _ _ _ _ g h k => k .ret g h)
    (fun _ _ _ _ _ _ _ _ => false) c

noncomputable def fRV (r : RV) : RT → AH → K1 → Bool :=
  @RV.rec (fun _ => RT → AH → K1 → Bool) (fun p g _ k => fGet (Pth.of p) g k)
    (fun p n agg g h k => fGet (Pth.of p) g fun v => (@AV.rec (fun _ => Nat → Bool → AH → K1 → Bool) (fun _ => PUnit) (fun _ => fun _ _ _ _ => false) (fun _ _ => fun _ _ _ _ => false) (fun _ => fun _ _ _ _ => false) (fun id off n agg h k => fIf agg (fCells h id off n fun cs => k (.agg cs)) (fRow h id fun _ cs _ => fNth cs off k)) (fun _ _ _ _ => false) (fun _ _ _ _ => fun _ _ _ _ => false) (fun _ _ _ _ => false) (fun _ => fun _ _ _ _ => false) (fun _ _ _ _ => false) (fun _ _ _ _ _ => fun _ _ _ _ => false) (fun _ _ _ _ => false) (fun _ _ => fun _ _ _ _ => false) (fun _ _ => fun _ _ _ _ => false) PUnit.unit (fun _ _ _ _ => PUnit.unit)) v n agg h k) r
noncomputable def fRVs (l : List RV) : RT → AH → KL → Bool :=
  @List.rec RV (fun _ => RT → AH → KL → Bool) (fun _ _ k => k []) (fun r _ ih g h k => fRV r g h fun v => ih g h fun vs => k (v :: vs)) l
noncomputable def fArgs (l : List AV) : Nat → RT → (RT → Bool) → Bool :=
  @List.rec AV (fun _ => Nat → RT → (RT → Bool) → Bool) (fun _ g k => k g) (fun v _ ih i g k => fSet (Pth.of i) g v fun g => fNat (Nat.succ i) fun i => ih i g k) l
noncomputable def fEnd (rs : List RV) (g : RT) (h' : AH) (ms : List Nat) (k : K2) : Bool :=
  @List.rec Nat (fun _ => List RV → RT → AH → List Nat → K2 → Bool) (fun rs g h' ms k => fRVs rs g h' fun vs => k (retV vs) { h' with marks := ms })
    (fun _ _ _ rs g h' ms k => @Option.rec AH (fun _ => List RV → RT → List Nat → K2 → Bool) (fun _ _ _ _ => false) (fun h' rs g ms k => fAH h' fun h' => fRVs rs g h' fun vs => k (retV vs) { h' with marks := ms }) (takeMarks h'.marks h') rs g ms k) h'.marks rs g h' ms k
noncomputable def fFn (C : FuncId → Option AF) (lf : Nat) (n : Nat) : FH :=
  @Nat.rec (fun _ => FH) (fun _ _ _ _ _ => false)
    (fun _ H Y f args h k => @Option.rec AF (fun _ => FH → Nat → FY → List AV → AH → K2 → Bool) (fun _ _ _ _ _ _ => false)
      (fun fn H lf Y args h k => fIf (Nat.ble args.length fn.nt) (fArgs args 0 .nil fun g => fCode fn.body H lf false Y g { h with marks := [] } fun x g h' =>
        @AX.rec (fun _ => List RV → RT → AH → List Nat → K2 → Bool) fEnd (fun _ _ _ _ _ _ => false) fEnd x fn.results g h' h.marks k) false) (C f) H lf Y args h k) n
end Go.Am

/- The evaluator for the kernel is the abstract machine: values, registers, heap. -/
namespace Go.Am

theorem fNat_eq (n : Nat) (k : KN) : fNat n k = k n := by cases n <;> rfl
theorem fIf_and {b x : Bool} (h : fIf b x false = true) : b = true ∧ x = true := by
  cases b with
  | false => exact absurd h Bool.false_ne_true
  | true => exact ⟨rfl, h⟩
theorem fIf_cases {b x y : Bool} (h : fIf b x y = true) : (b = true ∧ x = true) ∨ (b = false ∧ y = true) := by
  cases b with
  | false => exact .inr ⟨rfl, h⟩
  | true => exact .inl ⟨rfl, h⟩
theorem fIf_not {b y : Bool} (h : fIf b false y = true) : b = false ∧ y = true := by
  cases b with
  | false => exact ⟨rfl, h⟩
  | true => exact absurd h Bool.false_ne_true
theorem fBool_eq (b : Bool) (k : Bool → Bool) : fBool b k = k b := by cases b <;> rfl
theorem fOfNat_eq (n : Nat) (k : KI) : fOfNat n k = k (.ofNat n) := by cases n <;> rfl
theorem fNegSucc_eq (n : Nat) (k : KI) : fNegSucc n k = k (.negSucc n) := by cases n <;> rfl
theorem fInt_eq (n : Int) (k : KI) : fInt n k = k n := by
  cases n with
  | ofNat a => cases a <;> rfl
  | negSucc a => cases a <;> rfl
theorem fCap_eq (c : Cap) (k : Cap → Bool) : fCap c k = k c := by
  cases c with
  | fixed n => exact fNat_eq n _
  | upto n => exact fNat_eq n _

theorem fVal_eq (v : AV) (k : K1) : fVal v k = k v := by
  cases v with
  | bool b => exact fBool_eq b _
  | int kd n => exact fInt_eq n _
  | str s => rfl
  | ptr a b => exact (fNat_eq a _).trans (fNat_eq b _)
  | nilptr => rfl
  | slice a b c d => exact (fNat_eq a _).trans ((fNat_eq b _).trans ((fNat_eq c _).trans (fCap_eq d _)))
  | nilslice => rfl
  | map a => exact fNat_eq a _
  | nilmap => rfl
  | func f a b => rfl
  | nilfunc => rfl
  | agg l => rfl
  | tuple l => rfl
theorem fList_eq : ∀ (l : List AV) (k : KL), fList l k = k l
  | [], _ => rfl
  | x :: l, k => by
    show fVal x (fun x => fList l fun xs => k (x :: xs)) = k (x :: l)
    rw [fVal_eq, fList_eq l]
theorem fAV_eq (v : AV) (k : K1) : fAV v k = k v := by
  cases v with
  | bool b => exact fBool_eq b _
  | int kd n => exact fInt_eq n _
  | str s => rfl
  | ptr a b => exact (fNat_eq a _).trans (fNat_eq b _)
  | nilptr => rfl
  | slice a b c d => exact (fNat_eq a _).trans ((fNat_eq b _).trans ((fNat_eq c _).trans (fCap_eq d _)))
  | nilslice => rfl
  | map a => exact fNat_eq a _
  | nilmap => rfl
  | func f a b => rfl
  | nilfunc => rfl
  | agg l => exact fList_eq l _
  | tuple l => exact fList_eq l _

/-! ### registers -/
theorem fGet_eq (p : Pth) : ∀ (g : RT) (k : K1), fGet p g k = k (RT.get p g) := by
  induction p with
  | h => intro g k; cases g <;> rfl
  | l p ih =>
    intro g k
    cases g with
    | nil => rw [RT.get_nil]; rfl
    | node v a b => exact ih a k
  | r p ih =>
    intro g k
    cases g with
    | nil => rw [RT.get_nil]; rfl
    | node v a b => exact ih b k
theorem fSet_eq (p : Pth) : ∀ (g : RT) (v : AV) (k : RT → Bool), fSet p g v k = k (RT.set p g v) := by
  induction p with
  | h => intro g v k; cases g <;> rfl
  | l p ih =>
    intro g v k
    cases g with
    | nil => exact ih .nil v _
    | node x a b => exact ih a v _
  | r p ih =>
    intro g v k
    cases g with
    | nil => exact ih .nil v _
    | node x a b => exact ih b v _
theorem fOpd_eq (o : Opd) (g : RT) (k : K1) : fOpd o g k = k (o.ev g) := by
  cases o with
  | r i => exact fGet_eq _ g k
  | c v => rfl
theorem fOpds_eq : ∀ (l : List Opd) (g : RT) (k : KL), fOpds l g k = k (l.map (·.ev g))
  | [], _, _ => rfl
  | x :: l, g, k => by
    show fOpd x g (fun v => fOpds l g fun vs => k (v :: vs)) = _
    rw [fOpd_eq, fOpds_eq l]
    rfl
theorem fDst_eq (d : Option Nat) (v : AV) (g : RT) (k : RT → Bool) : fDst d v g k = k (setDst g d v) := by
  cases d with
  | none => rfl
  | some i => exact fSet_eq _ g v k

/-! ### the heap -/
theorem natRec_if {α : Type} (n : Nat) (z s : α) : (@Nat.rec (fun _ => α) z (fun _ _ => s) n) = if n = 0 then z else s := by
  cases n with
  | zero => rfl
  | succ n => rw [if_neg (Nat.succ_ne_zero n)]
theorem fHGet_eq (t : HT) : ∀ (n : Nat) (k : KO), fHGet t n k = k (t.get n) := by
  induction t with
  | nil => intro n k; rw [HT.get_nil]; rfl
  | node o l r ihl ihr =>
    intro n k
    cases n with
    | zero => rfl
    | succ m =>
      show (@Nat.rec (fun _ => (Nat → KO → Bool) → (Nat → KO → Bool) → Nat → KO → Bool) (fun ihl _ => ihl) (fun _ _ _ ihr => ihr) (Nat.mod m 2)) (fHGet l) (fHGet r) (Nat.div m 2) k = k (if m % 2 = 0 then l.get (m / 2) else r.get (m / 2))
      rw [natRec_if]
      by_cases h : m % 2 = 0
      · rw [if_pos h, if_pos (show Nat.mod m 2 = 0 from h)]
        exact ihl _ k
      · rw [if_neg h, if_neg (show ¬ Nat.mod m 2 = 0 from h)]
        exact ihr _ k
theorem fHSet_eq (fuel : Nat) : ∀ (t : HT) (n : Nat) (x : Option AO) (k : KT), fHSet fuel t n x k = k (HT.setF fuel t n x) := by
  induction fuel with
  | zero => intro t n x k; cases n <;> cases t <;> rfl
  | succ f ih =>
    intro t n x k
    cases t with
    | nil =>
      cases n with
      | zero => rfl
      | succ m =>
        show (@Nat.rec (fun _ => FS → Nat → Option AO → KT → Bool) (fun ih d x k => ih .nil d x fun a => k (.node none a .nil)) (fun _ _ ih d x k => ih .nil d x fun a => k (.node none .nil a)) (Nat.mod m 2)) (fHSet f) (Nat.div m 2) x k =
          k (if m % 2 = 0 then .node none (HT.setF f .nil (m / 2) x) .nil else .node none .nil (HT.setF f .nil (m / 2) x))
        rw [natRec_if]
        by_cases h : m % 2 = 0
        · rw [if_pos h, if_pos (show Nat.mod m 2 = 0 from h)]
          exact ih _ _ _ _
        · rw [if_neg h, if_neg (show ¬ Nat.mod m 2 = 0 from h)]
          exact ih _ _ _ _
    | node o l r =>
      cases n with
      | zero => rfl
      | succ m =>
        show (@Nat.rec (fun _ => FS → Option AO → HT → HT → Nat → Option AO → KT → Bool) (fun ih o l r d x k => ih l d x fun a => k (.node o a r)) (fun _ _ ih o l r d x k => ih r d x fun a => k (.node o l a)) (Nat.mod m 2)) (fHSet f) o l r (Nat.div m 2) x k =
          k (if m % 2 = 0 then .node o (HT.setF f l (m / 2) x) r else .node o l (HT.setF f r (m / 2) x))
        rw [natRec_if]
        by_cases h : m % 2 = 0
        · rw [if_pos h, if_pos (show Nat.mod m 2 = 0 from h)]
          exact ih _ _ _ _
        · rw [if_neg h, if_neg (show ¬ Nat.mod m 2 = 0 from h)]
          exact ih _ _ _ _
theorem fHT_eq (t : HT) : ∀ k : KT, fHT t k = k t := by
  induction t with
  | nil => intro k; rfl
  | node o l r ihl ihr =>
    intro k
    cases o with
    | none => exact (ihl _).trans (ihr _)
    | some o => exact (ihl _).trans (ihr _)

theorem fPut_ok {h : AH} {id : Nat} {o : Option AO} {k : KA} (q : fPut h id o k = true) : ∃ h', h.put id o = some h' ∧ k h' = true := by
  obtain ⟨n, f, ms, t⟩ := h
  obtain ⟨q1, q2⟩ := fIf_and q
  rw [fHSet_eq] at q2
  refine ⟨_, ?_, q2⟩
  unfold AH.put
  rw [if_pos (Nat.le_of_ble_eq_true q1)]
  rfl
theorem fNew_eq (h : AH) (o : AO) (k : Nat → AH → Bool) : fNew h o k = k (h.new o).1 (h.new o).2 := by
  obtain ⟨n, f, ms, t⟩ := h
  show fHSet (Nat.succ n) t n (some o) (fun t => fNat (Nat.succ n) fun n' => k n ⟨n', f, ms, t⟩) = _
  rw [fHSet_eq, fNat_eq]
  rfl
theorem fAH_eq (h : AH) (k : KA) : fAH h k = k h := by
  obtain ⟨n, f, ms, t⟩ := h
  exact (fNat_eq n _).trans ((fNat_eq f _).trans (fHT_eq t _))
theorem fAt_ok {h : AH} {id : Nat} {k : AO → Bool} (q : fAt h id k = true) : ∃ o, h.get id = some o ∧ k o = true := by
  obtain ⟨n, f, ms, t⟩ := h
  have q : fHGet t id (fun o => @Option.rec AO (fun _ => (AO → Bool) → Bool) (fun _ => false) (fun o k => k o) o k) = true := q
  rw [fHGet_eq] at q
  show ∃ o, t.get id = some o ∧ _
  cases hg : t.get id with
  | none => rw [hg] at q; exact absurd q Bool.false_ne_true
  | some o => rw [hg] at q; exact ⟨o, rfl, q⟩
theorem fRow_ok {h : AH} {id : Nat} {k : KR} (q : fRow h id k = true) : ∃ e cs kd, h.get id = some (.row e cs kd) ∧ k e cs kd = true := by
  obtain ⟨o, h1, h2⟩ := fAt_ok q
  cases o with
  | row e cs kd => exact ⟨e, cs, kd, h1, h2⟩
  | map => exact absurd h2 Bool.false_ne_true
  | loop => exact absurd h2 Bool.false_ne_true
  | dfr => exact absurd h2 Bool.false_ne_true

theorem fNth_ok : ∀ {l : List AV} {i : Nat} {k : K1}, fNth l i k = true → ∃ v, l[i]? = some v ∧ k v = true
  | [], i, k, q => absurd q Bool.false_ne_true
  | x :: l, 0, k, q => ⟨x, rfl, q⟩
  | x :: l, i + 1, k, q => by
    obtain ⟨v, h1, h2⟩ := fNth_ok (l := l) (i := i) (k := k) q
    exact ⟨v, by simpa using h1, h2⟩
theorem fTake_ok : ∀ {n : Nat} {l : List AV} {k : KL}, fTake n l k = true → n ≤ l.length ∧ k (l.take n) = true
  | 0, l, k, q => ⟨Nat.zero_le _, by rw [List.take_zero]; exact q⟩
  | n + 1, [], k, q => absurd q Bool.false_ne_true
  | n + 1, x :: l, k, q => by
    obtain ⟨h1, h2⟩ := fTake_ok (n := n) (l := l) (k := fun r => k (x :: r)) q
    exact ⟨by simpa using h1, by simpa using h2⟩
theorem fDrop_ok : ∀ {l : List AV} {i : Nat} {k : KL}, fDrop l i k = true → i ≤ l.length ∧ k (l.drop i) = true
  | [], 0, k, q => ⟨Nat.le_refl _, q⟩
  | [], i + 1, k, q => absurd q Bool.false_ne_true
  | x :: l, 0, k, q => ⟨Nat.zero_le _, q⟩
  | x :: l, i + 1, k, q => by
    obtain ⟨h1, h2⟩ := fDrop_ok (l := l) (i := i) (k := k) q
    exact ⟨by simpa using h1, by simpa using h2⟩
theorem fCells_ok {h : AH} {id off n : Nat} {k : KL} (q : fCells h id off n k = true) : ∃ cs, h.cellsAt id off n = some cs ∧ k cs = true := by
  cases n with
  | zero => exact ⟨[], by simp [AH.cellsAt], q⟩
  | succ n =>
    obtain ⟨e, cs, kd, h1, h2⟩ := fRow_ok q
    obtain ⟨h3, h4⟩ := fDrop_ok h2
    obtain ⟨h5, h6⟩ := fTake_ok h4
    refine ⟨_, ?_, h6⟩
    unfold AH.cellsAt
    rw [if_neg (Nat.succ_ne_zero n), h1]
    simp only
    rw [if_pos]
    rw [List.length_drop] at h5
    omega
theorem fOne_eq (v : AV) : fOne v = v.one := by cases v <;> rfl
theorem fOver_ok : ∀ {vs l : List AV} {k : KL}, fOver vs l k = true → vs.length ≤ l.length ∧ vs.all AV.one = true ∧ k (vs ++ l.drop vs.length) = true
  | [], l, k, q => ⟨Nat.zero_le _, rfl, q⟩
  | v :: vs, [], k, q => absurd q Bool.false_ne_true
  | v :: vs, x :: l, k, q => by
    obtain ⟨h0, q⟩ := fIf_and (x := fOver vs l fun r => k (v :: r)) q
    obtain ⟨h1, h2, h3⟩ := fOver_ok q
    rw [fOne_eq] at h0
    exact ⟨by simpa using h1, by simp [h0]; simpa using h2, by simpa using h3⟩
theorem fSplice_ok : ∀ {cs : List AV} {i : Nat} {vs : List AV} {k : KL}, fSplice cs i vs k = true → i + vs.length ≤ cs.length ∧ vs.all AV.one = true ∧ k (splice cs i vs) = true
  | [], 0, vs, k, q => by
    obtain ⟨h1, h2, h3⟩ := fOver_ok (k := k) q
    exact ⟨by simpa using h1, h2, by simpa [splice] using h3⟩
  | [], i + 1, vs, k, q => absurd q Bool.false_ne_true
  | x :: cs, 0, vs, k, q => by
    obtain ⟨h1, h2, h3⟩ := fOver_ok (k := k) q
    exact ⟨by simpa using h1, h2, by simpa [splice] using h3⟩
  | x :: cs, i + 1, vs, k, q => by
    obtain ⟨h1, h2, h3⟩ := fSplice_ok (cs := cs) (i := i) (vs := vs) (k := fun r => k (x :: r)) q
    refine ⟨by simp; omega, h2, ?_⟩
    have e : splice (x :: cs) (i + 1) vs = x :: splice cs i vs := by
      unfold splice
      rw [show i + 1 + vs.length = (i + vs.length) + 1 by omega]
      simp
    rw [e]
    exact h3
theorem fWrite_ok {h : AH} {id off : Nat} {vs : List AV} {k : KA} (q : fWrite h id off vs k = true) : ∃ h', h.write id off vs = some h' ∧ k h' = true := by
  cases vs with
  | nil => exact ⟨h, by simp [AH.write], q⟩
  | cons v vs =>
    obtain ⟨e, cs, kd, h1, h2⟩ := fRow_ok q
    obtain ⟨h3, h4, h5⟩ := fSplice_ok h2
    have fin : kd ≠ .ro → fPut h id (some (.row e (splice cs off (v :: vs)) kd)) k = true → ∃ h', h.write id off (v :: vs) = some h' ∧ k h' = true := by
      intro hk q
      obtain ⟨h', h6, h7⟩ := fPut_ok q
      refine ⟨h', ?_, h7⟩
      unfold AH.write
      rw [h1]
      simp only [List.isEmpty_cons, Bool.false_eq_true, if_false]
      rw [if_neg hk, if_pos ⟨h3, h4⟩]
      exact h6
    cases kd with
    | closed => exact fin (by simp) h5
    | open_ => exact fin (by simp) h5
    | ro => exact absurd h5 Bool.false_ne_true

/-! ### whole numbers -/
theorem pow2_eq (k : IntKind) : pow2 k = 2 ^ k.bits := by cases k <;> rfl
def bitsOf (k : IntKind) (n : Int) : Nat := (n % ((2 ^ k.bits : Nat) : Int)).toNat
theorem fBits_eq (k : IntKind) (n : Int) (c : KN) : fBits k n c = c (bitsOf k n) := by
  cases n with
  | ofNat a =>
    show fNat (Nat.mod a (pow2 k)) c = _
    rw [fNat_eq, pow2_eq]
    rfl
  | negSucc a =>
    show fNat (Nat.sub (Nat.sub (pow2 k) 1) (Nat.mod a (pow2 k))) c = _
    rw [fNat_eq, pow2_eq]
    congr 1
    unfold bitsOf
    rw [Int.negSucc_emod _ (by have := Nat.two_pow_pos k.bits; omega)]
    show 2 ^ k.bits - 1 - a % 2 ^ k.bits = _
    omega
theorem bitsOf_lt (k : IntKind) (n : Int) : bitsOf k n < pow2 k := by
  rw [pow2_eq]
  unfold bitsOf
  have h := Int.emod_lt_of_pos n (show (0 : Int) < ((2 ^ k.bits : Nat) : Int) by have := Nat.two_pow_pos k.bits; omega)
  have h0 := Int.emod_nonneg n (show ((2 ^ k.bits : Nat) : Int) ≠ 0 by have := Nat.two_pow_pos k.bits; omega)
  omega
theorem wrap_bitsOf (k : IntKind) (n : Int) : k.wrap (bitsOf k n : Nat) = k.wrap n := by
  have hp : ((2 ^ k.bits : Nat) : Int) = (2 : Int) ^ k.bits := by simp
  have e : ((bitsOf k n : Nat) : Int) % ((2 : Int) ^ k.bits) = n % ((2 : Int) ^ k.bits) := by
    unfold bitsOf
    rw [hp, Int.toNat_of_nonneg (Int.emod_nonneg n (by rw [← hp]; have := Nat.two_pow_pos k.bits; omega)), Int.emod_emod]
  unfold IntKind.wrap
  rw [e]
theorem fOf_eq (k : IntKind) (m : Nat) (c : KI) (h : m < pow2 k) : fOf k m c = c (k.wrap m) := by
  unfold fOf
  cases hb : Nat.ble (half k) m with
  | false =>
    show fOfNat m c = _
    rw [fOfNat_eq]
    congr 1
    have hb : ¬ half k ≤ m := fun e => by rw [Nat.ble_eq_true_of_le e] at hb; cases hb
    show (m : Int) = _
    cases k <;> simp only [half, pow2, IntKind.wrap, IntKind.bits, IntKind.signed] at * <;>
      simp only [Bool.true_and, Bool.false_and, Bool.false_eq_true, if_false, Nat.reduceSub, Int.reducePow] <;> first | omega | (split <;> (rename_i hd; simp at hd; omega))
  | true =>
    show fNegSucc (Nat.sub (Nat.sub (pow2 k) m) 1) c = _
    rw [fNegSucc_eq]
    congr 1
    have hb := Nat.le_of_ble_eq_true hb
    show Int.negSucc (pow2 k - m - 1) = _
    rw [Int.negSucc_eq]
    cases k <;> simp only [half, pow2, IntKind.wrap, IntKind.bits, IntKind.signed] at * <;>
      simp only [Bool.true_and, Bool.false_and, Bool.false_eq_true, if_false, Nat.reduceSub, Int.reducePow] <;> first | omega | (split <;> (rename_i hd; simp at hd; omega))
theorem fWrap_eq (k : IntKind) (n : Int) (c : KI) : fWrap k n c = c (k.wrap n) := by
  unfold fWrap
  rw [fBits_eq, fOf_eq _ _ _ (bitsOf_lt k n), wrap_bitsOf]
theorem fEq_eq (x y : Int) : fEq x y = (x == y) := by
  have : fEq x y = true ↔ x = y := by
    cases x <;> cases y <;> simp [fEq, Nat.beq_eq] <;> omega
  cases h : fEq x y with
  | true => rw [this.1 h]; simp
  | false =>
    have : x ≠ y := fun e => by rw [this.2 e] at h; cases h
    simp [this]
theorem fLt_eq (x y : Int) : fLt x y = decide (x < y) := by
  have : fLt x y = true ↔ x < y := by
    cases x <;> cases y <;> simp [fLt, Nat.blt_eq] <;> omega
  cases h : fLt x y with
  | true => simp [this.1 h]
  | false =>
    have : ¬ x < y := fun e => by rw [this.2 e] at h; cases h
    simp [this]
theorem fNot_eq (b : Bool) : fNot b = !b := by cases b <;> rfl
end Go.Am
