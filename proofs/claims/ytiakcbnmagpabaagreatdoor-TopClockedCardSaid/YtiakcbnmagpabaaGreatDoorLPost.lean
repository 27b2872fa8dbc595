/- What a law's arguments read as, where nothing that was there has changed: they read as they did. -/
import Derived.Test.YtiakcbnmagpabaaGreatDoorA4
import Derived.ChangeOld
import Derived.ChangeSame
import Derived.RowKit
import Derived.OpenShut
namespace Go.Am
open Go.ChangeShapes Go.WideShapes Go.RowKit

theorem mapM_some {α β : Type} {f g : α → Option β} : ∀ {l : List α} {xs : List β}, l.mapM f = some xs → (∀ i, i ∈ l → ∀ y, y ∈ xs → f i = some y → g i = some y) → l.mapM g = some xs
  | [], xs, e, _ => e
  | i :: l, xs, e, h => by
    rw [List.mapM_cons] at e ⊢
    cases e1 : f i with
    | none => rw [e1] at e; cases e
    | some y =>
      cases e2 : l.mapM f with
      | none => rw [e1, e2] at e; cases e
      | some ys =>
        rw [e1, e2] at e
        injection e with e
        subst e
        rw [h i (List.mem_cons_self ..) y (List.mem_cons_self ..) e1, mapM_some e2 fun j hj z hz => h j (List.mem_cons_of_mem _ hj) z (List.mem_cons_of_mem _ hz)]
        rfl

section
variable {H : Type} {enc : TypeId × Value → H} {P : Program} {w w' : World} {sp : Nat → Bool}

theorem cell_lt {a : Addr} {x : Value} (h : w.cell? a = some x) : a.block < w.heap.size := by
  by_cases q : a.block < w.heap.size
  · exact q
  · exfalso
    unfold World.cell? at h
    rw [Array.getElem?_eq_none (Nat.le_of_not_lt q)] at h
    cases h
theorem Still.cells {base : Nat} (s : Still w w') {a : Addr} {n : Nat} {cs : List Value} (h : w.cells? base a n = some cs) : w'.cells? base a n = some cs := by
  unfold World.cells? at h ⊢
  split
  · rename_i q
    rw [if_pos q] at h
    refine mapM_some h fun i _ y _ e => ?_
    rw [s.cell (cell_lt e)]
    exact e
  · rename_i q
    rw [if_neg q] at h
    cases h

/-- a type that a reading may meet: its parts are types of the table; a slice's elements take room -/
def tyOk (P : Program) : Option TypeDesc → Bool
  | some (.pointer e) => Nat.blt e P.types.size
  | some (.slice e) => Nat.blt e P.types.size && !(Nat.beq (P.cellsOf e) 0)
  | some (.array _ e) => Nat.blt e P.types.size
  | some (.map _ e) => Nat.blt e P.types.size
  | some (.struct fs) => fs.toList.all fun f => Nat.blt f.type P.types.size
  | _ => true
def typesOk (P : Program) : Bool := (List.range P.types.size).all fun t => tyOk P (P.underlying t)
theorem typesOk_at {P : Program} (h : typesOk P = true) {t : TypeId} (ht : t < P.types.size) : tyOk P (P.underlying t) = true := List.all_eq_true.1 h t (List.mem_range.2 ht)

/-- a reading again: nothing that was there has changed -/
theorem trod_still (s : Still w w') (hz : typesOk P = true) : ∀ (fuel : Nat) (t : TypeId) (cs : List Value) (x : DataW H × List MemPlace), t < P.types.size → DataW.trod enc P w 0 (fun _ => true) true fuel t cs = some x →
    (∀ p, p ∈ x.2 → sp p.block = true) → DataW.trod enc P w' 0 sp true fuel t cs = some x
  | 0, _, _, _, _, h, _ => by simp [DataW.trod] at h
  | fuel + 1, t, cs, x, hts, h, hp => by
    have hty := typesOk_at hz hts
    have ih := trod_still s hz fuel
    unfold DataW.trod at h ⊢
    split at h
    all_goals (try exact h)
    · rename_i e a ht
      cases e1 : w.cells? 0 a (P.cellsOf e) with
      | none => rw [e1] at h; cases h
      | some c =>
        rw [e1] at h
        simp only [Option.bind_some] at h
        cases e2 : DataW.trod enc P w 0 (fun _ => true) true fuel e c with
        | none => rw [e2] at h; cases h
        | some y =>
          rw [e2] at h
          injection h with h
          subst h
          rw [s.cells e1, Option.bind_some, ih _ _ _ (by rw [ht] at hty; exact Nat.le_of_ble_eq_true hty) e2 fun p q => hp p (List.mem_append_right _ q)]
          rfl
    · rename_i e a len cap ht
      simp only at h ⊢
      split at h
      · rename_i hc
        rw [if_pos hc]
        simp only [if_true] at h
        cases e1 : (List.range len).mapM (fun i => (w.cells? 0 (a.add (i * P.cellsOf e)) (P.cellsOf e)).bind (DataW.trod enc P w 0 (fun _ => true) true fuel e)) with
        | none => rw [e1] at h; cases h
        | some xs =>
          rw [e1] at h
          simp only [Option.bind_some] at h
          cases e2 : (List.range (cap - len)).mapM (fun j => (w.cells? 0 (a.add ((len + j) * P.cellsOf e)) (P.cellsOf e)).bind (DataW.trod enc P w 0 (fun _ => true) true fuel e)) with
          | none => rw [e2] at h; cases h
          | some ys =>
            rw [e2] at h
            injection h with h
            subst h
            have one : ∀ {k : Nat} {y : DataW H × List MemPlace}, y ∈ xs ++ ys → (w.cells? 0 (a.add (k * P.cellsOf e)) (P.cellsOf e)).bind (DataW.trod enc P w 0 (fun _ => true) true fuel e) = some y → (w'.cells? 0 (a.add (k * P.cellsOf e)) (P.cellsOf e)).bind (DataW.trod enc P w' 0 sp true fuel e) = some y := by
              intro k y hy q
              obtain ⟨c, q1, q2⟩ := Option.bind_eq_some_iff.1 q
              rw [s.cells q1, Option.bind_some]
              exact ih _ _ _ (by rw [ht] at hty; exact Nat.le_of_ble_eq_true ((Bool.and_eq_true _ _).mp hty).1) q2 fun p hq => hp p (List.mem_append_right _ (List.mem_flatMap.2 ⟨y, hy, hq⟩))
            rw [mapM_some e1 fun i _ y hy q => one (List.mem_append_left _ hy) q, Option.bind_some]
            have e3 := mapM_some e2 fun i _ y hy q => one (List.mem_append_right _ hy) q
            have l1 : xs.length = len := by
              have := mapM_some_length e1
              simpa using this
            have l2 : ys.length = cap - len := by
              have := mapM_some_length e2
              simpa using this
            cases hs : sp a.block with
            | true =>
              simp only [if_true]
              rw [e3]
              rfl
            | false =>
              have h0 : xs.length + ys.length = 0 := by
                cases hn : xs.length + ys.length with
                | zero => rfl
                | succ m =>
                  exfalso
                  have hm : MemPlace.cell a.block (a.off + 0) ∈ MemPlace.row a ((xs.length + ys.length) * P.cellsOf e) := by
                    unfold MemPlace.row
                    refine List.mem_map.2 ⟨0, List.mem_range.2 ?_, rfl⟩
                    rw [hn]
                    exact Nat.mul_pos (Nat.succ_pos m) (Nat.pos_of_ne_zero (by
                      rw [ht] at hty
                      have := ((Bool.and_eq_true _ _).mp hty).2
                      intro q
                      simp only [q] at this
                      cases this))
                  have := hp _ (List.mem_append_left _ hm)
                  rw [show (MemPlace.cell a.block (a.off + 0)).block = a.block from rfl, hs] at this
                  cases this
              have hy : ys = [] := List.eq_nil_of_length_eq_zero (by omega)
              subst hy
              rfl
      · cases h
    · rename_i cs _ _ fs ht
      split at h
      · rename_i hc
        rw [if_pos hc]
        cases e1 : fs.toList.mapM (fun f => DataW.trod enc P w 0 (fun _ => true) true fuel f.type ((cs.drop f.offset).take (P.cellsOf f.type))) with
        | none => rw [e1] at h; cases h
        | some xs =>
          rw [e1] at h
          injection h with h
          subst h
          rw [mapM_some e1 fun f hf y hy q => ih _ _ _ (by rw [ht] at hty; exact Nat.le_of_ble_eq_true (List.all_eq_true.1 hty f hf)) q fun p hq => hp p (List.mem_flatMap.2 ⟨y, hy, hq⟩)]
          rfl
      · cases h
    · rename_i cs _ _ n e ht
      split at h
      · rename_i hc
        rw [if_pos hc]
        cases e1 : (List.range n).mapM (fun i => DataW.trod enc P w 0 (fun _ => true) true fuel e ((cs.drop (i * P.cellsOf e)).take (P.cellsOf e))) with
        | none => rw [e1] at h; cases h
        | some xs =>
          rw [e1] at h
          injection h with h
          subst h
          rw [mapM_some e1 fun i _ y hy q => ih _ _ _ (by rw [ht] at hty; exact Nat.le_of_ble_eq_true hty) q fun p hq => hp p (List.mem_flatMap.2 ⟨y, hy, hq⟩)]
          rfl
      · cases h
    · rename_i k e b ht
      split at h
      · rename_i es clock hb
        have hlt : b < w.heap.size := by
          by_cases q : b < w.heap.size
          · exact q
          · exfalso
            rw [Array.getElem?_eq_none (Nat.le_of_not_lt q)] at hb
            cases hb
        rw [s.heap b hlt, hb]
        simp only
        split at h
        · rename_i hc
          rw [if_pos hc]
          obtain ⟨xs, e1, h⟩ := Option.bind_eq_some_iff.1 h
          simp only at h
          split at h
          · rename_i hr
            injection h with h
            subst h
            have e2 := mapM_some e1 (g := fun x => (keyOf P k x.key).bind fun key => if Value.formed P e x.val = true then Option.map (fun y => ((key, y.1), y.2)) (DataW.trod enc P w' 0 sp true fuel e x.val.cells.toList) else none) fun i _ y hy q => by
              obtain ⟨key, q1, q2⟩ := Option.bind_eq_some_iff.1 q
              simp only [q1, Option.bind_some]
              split at q2
              · rename_i hf
                rw [if_pos hf]
                obtain ⟨z, q3, q4⟩ := Option.map_eq_some_iff.1 q2
                subst q4
                rw [ih _ _ _ (by rw [ht] at hty; exact Nat.le_of_ble_eq_true hty) q3 fun p hq => hp p (List.mem_cons_of_mem _ (List.mem_flatMap.2 ⟨_, hy, hq⟩))]
                rfl
              · cases q2
            rw [e2]
            simp only [Option.bind_some]
            rw [if_pos hr]
          · cases h
        · cases h
      · cases h

theorem Trod.still (s : Still w w') (hz : typesOk P = true) {t : TypeId} {v : Value} {d : DataW H} {ps : List MemPlace} (hts : t < P.types.size) (h : DataW.Trod enc P w 0 (fun _ => true) true t v d ps) (hp : ∀ p, p ∈ ps → sp p.block = true) :
    DataW.Trod enc P w' 0 sp true t v d ps := by
  obtain ⟨n, h⟩ := h
  exact ⟨n, trod_still s hz n t _ _ hts h hp⟩
theorem TrodAll.still (s : Still w w') (hz : typesOk P = true) : ∀ {ts : List TypeId} {vs : List Value} {ds : List (DataW H)} {ps : List MemPlace}, (∀ t, t ∈ ts → t < P.types.size) → DataW.TrodAll enc P w 0 (fun _ => true) true ts vs ds ps → (∀ p, p ∈ ps → sp p.block = true) →
    DataW.TrodAll enc P w' 0 sp true ts vs ds ps
  | [], [], [], _, _, h, _ => h
  | _ :: _, _ :: _, _ :: _, _, hts, h, hp => by
    obtain ⟨p, q, h1, h2, h3⟩ := h
    subst h3
    exact ⟨p, q, Trod.still s hz (hts _ (List.mem_cons_self ..)) h1 fun x hx => hp x (List.mem_append_left _ hx), TrodAll.still s hz (fun t ht => hts t (List.mem_cons_of_mem _ ht)) h2 fun x hx => hp x (List.mem_append_right _ hx), rfl⟩

/-- what a law promises, where it answers true and changes nothing that was there -/
theorem post_still {f : Func} {sc : ChangeSpec} {apart fresh handsOn again : Bool} {args : Array Value} {ds gs : List (DataW H)} {before : List MemPlace} (s : Still w w') (hz : typesOk P = true) (hts : f.params.toList.all (fun t => Nat.blt t P.types.size) = true)
    (hW : DataW.Whole enc P f.params.toList sc.vars apart w args.toList ds gs before) (hv : sc.vars = []) {t : TypeId} (ht1 : f.resultTypes = #[t]) (ht2 : P.underlying t = some .bool)
    (hres : (sc.fn H (ds ++ gs)).results = [.lit (.bool true)]) (hargs : (sc.fn H (ds ++ gs)).args = ds) (hvars : (sc.fn H (ds ++ gs)).vars = []) :
    sc.post enc P f apart fresh handsOn again w args (.bool true) w' := by
  have hlt := hW.lt
  have hW0 := hW
  obtain ⟨p, q, h1, h2, hps, hfz, hnd⟩ := hW
  rw [hv] at h2
  have hg : gs = [] ∧ q = [] := by
    cases gs with
    | nil => exact ⟨rfl, h2⟩
    | cons _ _ => cases h2
  obtain ⟨hg1, hg2⟩ := hg
  subst hg1 hg2
  rw [List.append_nil] at hps hres hargs hvars
  subst hps
  have hrs : ∀ (b : Nat) (sp : Nat → Bool) (hd : Bool), DataW.TrodAll enc P w' b sp hd f.resultTypes.toList ((Value.bool true).resultList f.resultTypes.size) [.lit (.bool true)] [] := by
    intro b sp hd
    rw [ht1]
    exact trodAll_cons_mk (shut_bool ht2 _) trodAll_mk0
  have hag : ∀ sp : Nat → Bool, (∀ p ∈ before, sp p.block = true) → DataW.TrodAll enc P w' 0 sp true f.params.toList args.toList ds before := fun sp hsp => TrodAll.still s hz (fun t ht => Nat.le_of_ble_eq_true (List.all_eq_true.1 hts t ht)) h1 hsp
  have hold : ∀ p ∈ before, (fun b => decide (b < w.heap.size)) p.block = true := fun p hp => by simpa using hlt p hp
  refine ⟨ds, [], before, [], before, [], hW0, ?_, ?_, ?_, s.kept _, fun _ => ?_⟩
  · rw [List.append_nil, hres]
    exact hrs _ _ _
  · rw [List.append_nil, hargs]
    exact hag _ hold
  · rw [List.append_nil, hvars, hv]
    exact rfl
  · refine ⟨ok_one (by rw [ht1]) rfl (okWide_bool_mk ht2 _), [.lit (.bool true)] ++ ds, [], ([] ++ before) ++ [], ⟨[] ++ before, [], trodAll_append (hag _ fun _ _ => rfl) (hrs _ _ _), by rw [hv]; exact rfl, rfl, ?_, ?_⟩, ?_⟩
    · intro b off hp
      have hp' : MemPlace.cell b off ∈ before := by simpa using hp
      rw [s.frozen (hlt _ hp')]
      exact hfz b off hp'
    · intro ha
      simpa using hnd ha
    · intro p hp _
      simpa using hp
end
end Go.Am
