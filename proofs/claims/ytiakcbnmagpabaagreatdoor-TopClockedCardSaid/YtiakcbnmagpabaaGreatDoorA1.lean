/- The operations that touch no memory, and those that read it. -/
import Derived.Test.YtiakcbnmagpabaaGreatDoorA0
import Derived.Laws.BytesString
import Derived.Laws.Cover3
import Derived.Laws.Pointers
import Derived.WalkSpells
import Derived.MapKept
namespace Go.Am

/-- One operation, that is no call: the model's is the abstract machine's. -/
def Step (P : Program) (s : Sem Next) (ρ : Env) (h : AH) (w : World) (v : AV) (h' : AH) : Prop :=
  ∃ x w' ρ', (s.run P w = .ok (.value x) w' ∨ (s.run P w = .ok .skip w' ∧ x = Go.undef)) ∧ v.den ρ' = some x ∧ Trans ρ h w ρ' h' w'

section
variable {P : Program} {n : Nat} {ρ : Env} {g : RT} {a : Act} {h h' : AH} {w : World} {v : AV}

theorem Step.value {s : Sem Value} {x : Value} (hr : HRel ρ h w) (e : s.run P w = .ok x w) (hv : v.den ρ = some x) : Step P (do pure (.value (← s))) ρ h w v h :=
  ⟨x, w, ρ, .inl (by simp [e]), hv, .refl hr⟩
theorem Step.value' {s : Sem Value} {x : Value} {w' : World} {ρ' : Env} (e : s.run P w = .ok x w') (hv : v.den ρ' = some x) (ht : Trans ρ h w ρ' h' w') : Step P (do pure (.value (← s))) ρ h w v h' :=
  ⟨x, w', ρ', .inl (by simp [e]), hv, ht⟩

/-- what 'pure1' is -/
theorem pure1_some {x : Option AV} {h : AH} {r : AV × AH} (e : opt x (fun v => some (v, h)) = some r) : ∃ v, x = some v ∧ r = (v, h) := by
  obtain ⟨v, h1, h2⟩ := opt_some.1 e
  exact ⟨v, h1, (Option.some.inj h2).symm⟩

theorem step_mv (hf : FRel n ρ g a) (hr : HRel ρ h w) {x : Operand} {y : Opd} (hc : compOpd x = some y) (he : evOp (.mv y) g h = some (v, h')) :
    Step P (pure (.value (a.eval x))) ρ h w v h' := by
  simp only [evOp, Option.some.injEq, Prod.mk.injEq] at he
  obtain ⟨rfl, rfl⟩ := he
  exact ⟨_, w, ρ, .inl rfl, opd_den hf hc, .refl hr⟩

theorem step_pick (hf : FRel n ρ g a) (hr : HRel ρ h w) {c x y : Operand} {c' x' y' : Opd} (h1 : compOpd c = some c') (h2 : compOpd x = some x') (h3 : compOpd y = some y')
    (he : evOp (.pick c' x' y') g h = some (v, h')) : Step P (do pure (.value (if ← asBool (a.eval c) then a.eval x else a.eval y))) ρ h w v h' := by
  have d1 := opd_den hf h1
  have d2 := opd_den hf h2
  have d3 := opd_den hf h3
  simp only [evOp] at he
  split at he
  · rename_i hc
    rw [hc, bool_den] at d1
    simp only [Option.some.injEq, Prod.mk.injEq] at he
    obtain ⟨rfl, rfl⟩ := he
    exact ⟨_, w, ρ, .inl (by simp [asBool, d1]), d2, .refl hr⟩
  · rename_i hc
    rw [hc, bool_den] at d1
    simp only [Option.some.injEq, Prod.mk.injEq] at he
    obtain ⟨rfl, rfl⟩ := he
    exact ⟨_, w, ρ, .inl (by simp [asBool, d1]), d3, .refl hr⟩
  · cases he

theorem step_bin (hf : FRel n ρ g a) (hr : HRel ρ h w) {op : BinOp} {t : TypeId} {x y : Operand} {x' y' : Opd} (h2 : compOpd x = some x') (h3 : compOpd y = some y')
    (he : evOp (.bin op x' y') g h = some (v, h')) : Step P (do pure (.value (← (do eqGuard op t x y (a.eval x) (a.eval y); binOp op t (a.eval x) (a.eval y) : Sem Value)))) ρ h w v h' := by
  simp only [evOp] at he
  obtain ⟨u, e1, e2⟩ := pure1_some he
  simp only [Prod.mk.injEq] at e2
  obtain ⟨rfl, rfl⟩ := e2
  obtain ⟨z, hz, hd⟩ := binV_run P op _ _ _ _ _ ρ w e1 (opd_den hf h2) (opd_den hf h3) t x y
  exact .value hr hz hd

theorem step_un (hf : FRel n ρ g a) (hr : HRel ρ h w) {op : UnOp} {x : Operand} {x' : Opd} (h2 : compOpd x = some x')
    (he : evOp (.un op x') g h = some (v, h')) : Step P (do pure (.value (← Op.unary op (a.eval x)))) ρ h w v h' := by
  simp only [evOp] at he
  obtain ⟨u, e1, e2⟩ := pure1_some he
  simp only [Prod.mk.injEq] at e2
  obtain ⟨rfl, rfl⟩ := e2
  obtain ⟨z, hz, hd⟩ := unV_run P op _ _ _ ρ w e1 (opd_den hf h2)
  exact .value hr hz hd

theorem step_toInt (hf : FRel n ρ g a) (hr : HRel ρ h w) {s d : TypeId} {k : IntKind} {sk : IntKind} (hs : P.underlying s = some (.int sk)) (hd : P.underlying d = some (.int k)) {x : Operand} {x' : Opd} (h2 : compOpd x = some x')
    (he : evOp (.toInt k x') g h = some (v, h')) : Step P (do pure (.value (← convert s d (a.eval x)))) ρ h w v h' := by
  have d2 := opd_den hf h2
  simp only [evOp] at he
  split at he
  · rename_i k' i hx
    rw [hx, int_den] at d2
    simp only [Option.some.injEq, Prod.mk.injEq] at he
    obtain ⟨rfl, rfl⟩ := he
    rw [d2]
    refine .value (x := .int k (k.wrap i)) hr ?_ rfl
    simp only [convert, Sem.run_bind, run_underlying hs, run_underlying hd, Result.andThen_ok]
    rfl
  · cases he

theorem step_same (hf : FRel n ρ g a) (hr : HRel ρ h w) {s d : TypeId} (hs : P.underlying s = some .string) (hd : P.underlying d = some .string) {x : Operand} {x' : Opd} (h2 : compOpd x = some x')
    (he : evOp (.same x') g h = some (v, h')) : Step P (do pure (.value (← convert s d (a.eval x)))) ρ h w v h' := by
  have d2 := opd_den hf h2
  simp only [evOp] at he
  split at he
  · rename_i s' hx
    rw [hx] at d2
    simp only [Option.some.injEq, Prod.mk.injEq] at he
    obtain ⟨rfl, rfl⟩ := he
    refine .value hr ?_ d2
    rw [str_den] at d2
    rw [d2]
    simp only [convert, Sem.run_bind, run_underlying hs, run_underlying hd, Result.andThen_ok]
    rfl
  · cases he

theorem step_load1 (hf : FRel n ρ g a) (hr : HRel ρ h w) {t : TypeId} (ht : aggT P t = some false) {x : Operand} {x' : Opd} (h2 : compOpd x = some x')
    (he : evOp (.load1 x') g h = some (v, h')) : Step P (do pure (.value (← Instr.loadAt t (a.eval x)))) ρ h w v h' := by
  have d2 := opd_den hf h2
  simp only [evOp] at he
  split at he
  · rename_i id off hx
    rw [hx, den_ptr] at d2
    obtain ⟨r, hρ, d2⟩ := d2
    obtain ⟨u, e1, e2⟩ := pure1_some he
    simp only [Prod.mk.injEq] at e2
    obtain ⟨rfl, rfl⟩ := e2
    obtain ⟨z, hz, hd⟩ := cell_run P hr e1 hρ
    rw [d2]
    refine .value hr ?_ hz
    simp only [Instr.loadAt, Instr.sureAddr, loadVar, Sem.run_bind, Sem.run_pure, Result.andThen_ok, aggT_run ht, Bool.false_eq_true, if_false]
    exact hd
  · cases he

theorem step_loadN (hf : FRel n ρ g a) (hr : HRel ρ h w) {t : TypeId} {m : Nat} (ht : aggT P t = some true) (hm : sizeOfT P t = some m) {x : Operand} {x' : Opd} (h2 : compOpd x = some x')
    (he : evOp (.loadN m x') g h = some (v, h')) : Step P (do pure (.value (← Instr.loadAt t (a.eval x)))) ρ h w v h' := by
  have d2 := opd_den hf h2
  simp only [evOp] at he
  split at he
  · rename_i id off hx
    rw [hx, den_ptr] at d2
    obtain ⟨r, hρ, d2⟩ := d2
    obtain ⟨u, e1, e2⟩ := pure1_some he
    simp only [Prod.mk.injEq] at e2
    obtain ⟨rfl, rfl⟩ := e2
    obtain ⟨cs, e3, e4⟩ := opt_some.1 e1
    injection e4 with e4
    subst e4
    obtain ⟨xs, hz, _, hd⟩ := cellsAt_run P hr e3 hρ
    rw [d2]
    refine .value hr ?_ (den_agg.2 ⟨xs, hz, rfl⟩)
    simp only [Instr.loadAt, Instr.sureAddr, loadVar, Sem.run_bind, Sem.run_pure, Result.andThen_ok, aggT_run ht, if_true, sizeOfT_run hm, hd]
  · cases he

theorem step_fieldAt (hf : FRel n ρ g a) (hr : HRel ρ h w) {t : TypeId} {fs : Array Field} {i : Nat} {f : Field} {s : Nat} (ht : P.underlying t = some (.struct fs)) (hi : fs[i]? = some f)
    (hs : sizeOfT P f.type = some s) (h0 : s ≠ 0) {x : Operand} {x' : Opd} (h2 : compOpd x = some x')
    (he : evOp (.fieldAt f.offset x') g h = some (v, h')) : Step P (do pure (.value (← Instr.fieldAt t (a.eval x) i))) ρ h w v h' := by
  have d2 := opd_den hf h2
  simp only [evOp] at he
  split at he
  · rename_i id off hx
    rw [hx, den_ptr] at d2
    obtain ⟨r, hρ, d2⟩ := d2
    simp only [Option.some.injEq, Prod.mk.injEq] at he
    obtain ⟨rfl, rfl⟩ := he
    rw [d2]
    refine .value hr ?_ (den_ptr.2 ⟨r, hρ, rfl⟩)
    simp only [Instr.fieldAt, Instr.sureAddr, fieldPlace, Sem.run_bind, Sem.run_pure, Result.andThen_ok, run_underlying ht, hi, sizeOfT_run hs, Sem.run_ite, h0, if_false]
    unfold Addr.add
    split
    · rename_i e; simp [e]
    · simp [Nat.add_assoc]
  · cases he

theorem addr_add (b o m : Nat) : (⟨b, o, none⟩ : Addr).add m = ⟨b, o + m, none⟩ := by
  unfold Addr.add
  split
  · rename_i e; simp [e]
  · rfl

theorem idxV_run {i : AV} {len j : Nat} {x : Value} (hi : idxV i len = some j) (hx : i.den ρ = some x) : ∃ k q, x = .int k q ∧ 0 ≤ q ∧ q < len ∧ q.toNat = j := by
  unfold idxV at hi
  split at hi
  · rename_i k q
    rw [int_den] at hx
    split at hi
    · rename_i hq
      injection hi with hi
      exact ⟨k, q, hx, hq.1, hq.2, hi⟩
    · cases hi
  · cases hi

theorem step_indexArr (hf : FRel n ρ g a) (hr : HRel ρ h w) {t e : TypeId} {len s : Nat} (ht : P.underlying t = some (.array len e)) (hs : sizeOfT P e = some s) {x i : Operand} {x' i' : Opd} (h2 : compOpd x = some x') (h3 : compOpd i = some i')
    (he : evOp (.indexArr len s x' i') g h = some (v, h')) : Step P (do pure (.value (← Instr.indexAt t (a.eval x) (a.eval i)))) ρ h w v h' := by
  have d2 := opd_den hf h2
  have d3 := opd_den hf h3
  simp only [evOp] at he
  split at he
  · rename_i id off hx
    rw [hx, den_ptr] at d2
    obtain ⟨r, hρ, d2⟩ := d2
    obtain ⟨u, e1, e2⟩ := pure1_some he
    simp only [Prod.mk.injEq] at e2
    obtain ⟨rfl, rfl⟩ := e2
    obtain ⟨j, e3, e4⟩ := opt_some.1 e1
    injection e4 with e4
    subst e4
    obtain ⟨k, q, hq, q1, q2, rfl⟩ := idxV_run e3 d3
    rw [d2, hq]
    refine .value hr ?_ (den_ptr.2 ⟨r, hρ, rfl⟩)
    simp only [Instr.indexAt, Instr.sureAddr, asIntOf, Sem.run_bind, Sem.run_pure, Result.andThen_ok, run_underlying ht, Sem.run_ite, q1, q2, and_self, if_true, sizeOfT_run hs, addr_add, Nat.add_assoc]
  · cases he

theorem step_indexSl (hf : FRel n ρ g a) (hr : HRel ρ h w) {t e : TypeId} {s : Nat} (ht : P.underlying t = some (.slice e)) (hs : sizeOfT P e = some s) {x i : Operand} {x' i' : Opd} (h2 : compOpd x = some x') (h3 : compOpd i = some i')
    (he : evOp (.indexSl s x' i') g h = some (v, h')) : Step P (do pure (.value (← Instr.indexAt t (a.eval x) (a.eval i)))) ρ h w v h' := by
  have d2 := opd_den hf h2
  have d3 := opd_den hf h3
  simp only [evOp] at he
  split at he
  · rename_i id off len cap hx
    rw [hx, den_slice] at d2
    obtain ⟨r, hρ, d2⟩ := d2
    obtain ⟨u, e1, e2⟩ := pure1_some he
    simp only [Prod.mk.injEq] at e2
    obtain ⟨rfl, rfl⟩ := e2
    obtain ⟨j, e3, e4⟩ := opt_some.1 e1
    injection e4 with e4
    subst e4
    obtain ⟨k, q, hq, q1, q2, rfl⟩ := idxV_run e3 d3
    rw [d2, hq]
    refine .value hr ?_ (den_ptr.2 ⟨r, hρ, rfl⟩)
    simp only [Instr.indexAt, asIntOf, Sem.run_bind, Sem.run_pure, Result.andThen_ok, run_underlying ht, Sem.run_ite, q1, q2, and_self, if_true, sizeOfT_run hs, addr_add, Nat.add_assoc]
  · cases he

theorem step_extract (hf : FRel n ρ g a) (hr : HRel ρ h w) {i : Nat} {x : Operand} {x' : Opd} (h2 : compOpd x = some x')
    (he : evOp (.extract i x') g h = some (v, h')) : Step P (do pure (.value (← Instr.extract (a.eval x) i))) ρ h w v h' := by
  have d2 := opd_den hf h2
  simp only [evOp] at he
  split at he
  · rename_i vs hx
    rw [hx, den_tuple] at d2
    obtain ⟨xs, hd, d2⟩ := d2
    obtain ⟨u, e1, e2⟩ := pure1_some he
    simp only [Prod.mk.injEq] at e2
    obtain ⟨rfl, rfl⟩ := e2
    obtain ⟨y, hy, hy2⟩ := denL_get hd e1
    rw [d2]
    refine .value hr ?_ hy
    simp [Instr.extract, hy2]
  · cases he

theorem step_nilCheck (hf : FRel n ρ g a) (hr : HRel ρ h w) {x : Operand} {x' : Opd} (h2 : compOpd x = some x') (o : Oper) (ho : o.op = .nilCheck x)
    (he : evOp (.nilCheck x') g h = some (v, h')) : Step P (execOp a.eval o) ρ h w v h' := by
  have d2 := opd_den hf h2
  simp only [evOp] at he
  split at he
  · rename_i id off hx
    rw [hx] at d2
    simp only [Option.some.injEq, Prod.mk.injEq] at he
    obtain ⟨rfl, rfl⟩ := he
    refine ⟨_, w, ρ, .inl ?_, d2, .refl hr⟩
    rw [den_ptr] at d2
    obtain ⟨r, _, d2⟩ := d2
    simp [execOp, ho, d2]
  · rename_i f p q hx
    rw [hx] at d2
    simp only [Option.some.injEq, Prod.mk.injEq] at he
    obtain ⟨rfl, rfl⟩ := he
    refine ⟨_, w, ρ, .inl ?_, d2, .refl hr⟩
    rw [den_func] at d2
    obtain ⟨g', xs, ys, e1, _, _, d2⟩ := d2
    simp only [fnDen, Option.some.injEq] at e1
    subst e1
    simp [execOp, ho, d2]
  · cases he
end
end Go.Am

/- More operations that read at most. -/
namespace Go.Am
section
variable {P : Program} {n : Nat} {ρ : Env} {g : RT} {a : Act} {h h' : AH} {w : World} {v : AV}

theorem step_indexStr (hf : FRel n ρ g a) (hr : HRel ρ h w) {t : TypeId} (ht : P.underlying t = some .string) {x i : Operand} {x' i' : Opd} (h2 : compOpd x = some x') (h3 : compOpd i = some i')
    (he : evOp (.indexStr x' i') g h = some (v, h')) : Step P (do pure (.value (← Instr.index t (a.eval x) (a.eval i)))) ρ h w v h' := by
  have d2 := opd_den hf h2
  have d3 := opd_den hf h3
  simp only [evOp] at he
  split at he
  · rename_i s hx
    rw [hx, str_den] at d2
    obtain ⟨u, e1, e2⟩ := pure1_some he
    simp only [Prod.mk.injEq] at e2
    obtain ⟨rfl, rfl⟩ := e2
    obtain ⟨j, e3, e4⟩ := opt_some.1 e1
    obtain ⟨b, e5, e6⟩ := opt_some.1 e4
    injection e6 with e6
    subst e6
    obtain ⟨k, q, hq, q1, q2, rfl⟩ := idxV_run e3 d3
    rw [d2, hq]
    refine .value (x := .int .u8 b.toNat) hr ?_ rfl
    have hb : (⟨s.toArray⟩ : ByteArray)[q.toNat]? = some b := by
      obtain ⟨hl, hv⟩ := List.getElem?_eq_some_iff.1 e5
      have hl' : q.toNat < (⟨s.toArray⟩ : ByteArray).size := by simpa [ByteArray.size] using hl
      exact (getElem?_pos (⟨s.toArray⟩ : ByteArray) q.toNat hl').trans (congrArg some hv)
    simp only [Instr.index, asIntOf, Sem.run_bind, Sem.run_pure, Result.andThen_ok, run_underlying ht, q1, if_true, hb]
  · cases he

theorem part_run {t : TypeId} {s : Nat} {agg : Bool} (ht : aggT P t = some agg) (hs : sizeOfT P t = some s) {cs : List AV} {xs : List Value} {off : Nat} (hc : denL ρ cs = some xs)
    (hv : (if agg then some (.agg ((cs.drop off).take s)) else cs[off]?) = some v) : ∃ x, (part t xs.toArray off).run P w = .ok x w ∧ v.den ρ = some x := by
  cases agg with
  | true =>
    simp only [if_true, Option.some.injEq] at hv
    subst hv
    refine ⟨.agg ((xs.drop off).take s).toArray, ?_, den_agg.2 ⟨_, denL_take s (denL_drop off hc), rfl⟩⟩
    simp only [part, Sem.run_bind, aggT_run ht, Result.andThen_ok, if_true, sizeOfT_run hs, Sem.run_pure]
    congr 2
    apply Array.ext'
    simp
  | false =>
    simp only [Bool.false_eq_true, if_false] at hv
    obtain ⟨y, hy, hy2⟩ := denL_get hc hv
    refine ⟨y, ?_, hy⟩
    simp [part, aggT_run ht, hy2]

theorem step_indexAgg (hf : FRel n ρ g a) (hr : HRel ρ h w) {t e : TypeId} {len s : Nat} {agg : Bool} (ht : P.underlying t = some (.array len e)) (hg : aggT P e = some agg) (hs : sizeOfT P e = some s)
    {x i : Operand} {x' i' : Opd} (h2 : compOpd x = some x') (h3 : compOpd i = some i')
    (he : evOp (.indexAgg len s agg x' i') g h = some (v, h')) : Step P (do pure (.value (← Instr.index t (a.eval x) (a.eval i)))) ρ h w v h' := by
  have d2 := opd_den hf h2
  have d3 := opd_den hf h3
  simp only [evOp] at he
  split at he
  · rename_i cs hx
    rw [hx, den_agg] at d2
    obtain ⟨xs, hd, d2⟩ := d2
    obtain ⟨u, e1, e2⟩ := pure1_some he
    simp only [Prod.mk.injEq] at e2
    obtain ⟨rfl, rfl⟩ := e2
    obtain ⟨j, e3, e4⟩ := opt_some.1 e1
    obtain ⟨k, q, hq, q1, q2, rfl⟩ := idxV_run e3 d3
    obtain ⟨z, hz, hzd⟩ := part_run (w := w) hg hs hd e4
    rw [d2, hq]
    refine .value hr ?_ hzd
    simp only [Instr.index, asIntOf, Sem.run_bind, Sem.run_pure, Result.andThen_ok, run_underlying ht, Sem.run_ite, q1, q2, and_self, if_true, sizeOfT_run hs, hz]
  · cases he

theorem step_part (hf : FRel n ρ g a) (hr : HRel ρ h w) {t : TypeId} {fs : Array Field} {i : Nat} {f : Field} {s : Nat} {agg : Bool} (ht : P.underlying t = some (.struct fs)) (hi : fs[i]? = some f)
    (hg : aggT P f.type = some agg) (hs : sizeOfT P f.type = some s) {x : Operand} {x' : Opd} (h2 : compOpd x = some x')
    (he : evOp (.part f.offset s agg x') g h = some (v, h')) : Step P (do pure (.value (← Instr.field t (a.eval x) i))) ρ h w v h' := by
  have d2 := opd_den hf h2
  simp only [evOp] at he
  split at he
  · rename_i cs hx
    rw [hx, den_agg] at d2
    obtain ⟨xs, hd, d2⟩ := d2
    obtain ⟨u, e1, e2⟩ := pure1_some he
    simp only [Prod.mk.injEq] at e2
    obtain ⟨rfl, rfl⟩ := e2
    obtain ⟨z, hz, hzd⟩ := part_run (w := w) hg hs hd e1
    rw [d2]
    refine .value hr ?_ hzd
    simp only [Instr.field, asAgg, Sem.run_bind, Sem.run_pure, Result.andThen_ok, run_underlying ht, hi, hz]
  · cases he

theorem toBytes_den : ∀ {cs : List AV} {l : List UInt8} {xs : List Value}, toBytes cs = some l → denL ρ cs = some xs → ∃ ns : List Int, xs = ns.map (Value.int .u8) ∧ l = ns.map fun i => UInt8.ofNat i.toNat
  | [], l, xs, h1, h2 => by
    simp only [toBytes, Option.some.injEq] at h1
    exact ⟨[], denL_nil.1 h2, h1.symm⟩
  | c :: cs, l, xs, h1, h2 => by
    unfold toBytes at h1
    split at h1
    · rename_i heq; cases heq
    · rename_i i rest heq
      injection heq with e1 e2
      subst e1 e2
      obtain ⟨l', e3, e4⟩ := opt_some.1 h1
      injection e4 with e4
      subst e4
      obtain ⟨y, ys, k1, k2, rfl⟩ := denL_cons.1 h2
      rw [int_den] at k1
      obtain ⟨ns, rfl, rfl⟩ := toBytes_den e3 k2
      exact ⟨i :: ns, by simp [k1], rfl⟩
    · cases h1

theorem bytes_foldl (ns : List Int) : ∀ (s : ByteArray), ns.foldl (fun r n => r.push (UInt8.ofNat n.toNat)) s = ⟨s.data ++ (ns.map fun i => UInt8.ofNat i.toNat).toArray⟩ := by
  induction ns with
  | nil => intro s; simp
  | cons i ns ih =>
    intro s
    rw [List.foldl_cons, ih]
    congr 1
    apply Array.ext'
    simp [ByteArray.push]

theorem step_strOf (hf : FRel n ρ g a) (hr : HRel ρ h w) {s d e : TypeId} (hs : P.underlying s = some (.slice e)) (hd : P.underlying d = some .string) (hb : P.underlying e = some (.int .u8)) {x : Operand} {x' : Opd} (h2 : compOpd x = some x')
    (he : evOp (.strOf x') g h = some (v, h')) : Step P (do pure (.value (← convert s d (a.eval x)))) ρ h w v h' := by
  have d2 := opd_den hf h2
  simp only [evOp] at he
  split at he
  · rename_i hx
    rw [hx] at d2
    simp only [AV.den, Option.some.injEq] at d2
    simp only [Option.some.injEq, Prod.mk.injEq] at he
    obtain ⟨rfl, rfl⟩ := he
    rw [← d2]
    refine .value (x := .string ⟨#[]⟩) hr ?_ rfl
    simp only [convert, Sem.run_bind, run_underlying hs, run_underlying hd, Result.andThen_ok, run_underlying hb, Conv.bytesToString, Sem.run_pure]
    rfl
  · rename_i id off len cap hx
    rw [hx, den_slice] at d2
    obtain ⟨r, hρ, d2⟩ := d2
    obtain ⟨u, e1, e2⟩ := pure1_some he
    simp only [Prod.mk.injEq] at e2
    obtain ⟨rfl, rfl⟩ := e2
    obtain ⟨cs, e3, e4⟩ := opt_some.1 e1
    obtain ⟨l, e5, e6⟩ := opt_some.1 e4
    injection e6 with e6
    subst e6
    obtain ⟨xs, hz, hlen, hld⟩ := cellsAt_run P hr e3 hρ
    obtain ⟨ns, rfl, rfl⟩ := toBytes_den e5 hz
    rw [d2]
    refine .value (x := .string ⟨(ns.map fun i => UInt8.ofNat i.toNat).toArray⟩) hr ?_ rfl
    rw [run_convert_bytes_string w s d e _ len _ hs hb hd, run_bytesToString w _ len _ ns hld, bytes_foldl, show ByteArray.empty.data = #[] from rfl, Array.empty_append]
  · cases he

theorem entryDen_length {ρ : Env} : ∀ {es : List (AV × AV × Nat)} {l : List MapEntry}, entryDen ρ es = some l → l.length = es.length
  | [], l, h => by simp only [entryDen, Option.some.injEq] at h; subst h; rfl
  | (p, q, b) :: es, l, h => by
    simp only [entryDen] at h
    split at h
    · rename_i h5
      injection h with h
      subst h
      simp [entryDen_length h5]
    · cases h

theorem step_len (hf : FRel n ρ g a) (hr : HRel ρ h w) {t : TypeId} {k : LenK} {x : Operand} {x' : Opd} (h2 : compOpd x = some x') {ty : TypeId}
    (hk : (k = .str ∧ P.underlying t = some .string) ∨ (k = .slice ∧ ∃ e, P.underlying t = some (.slice e)) ∨ (k = .map ∧ ∃ e f, P.underlying t = some (.map e f)) ∨
      (∃ m e, k = .const m ∧ P.underlying t = some (.array m e)) ∨ (∃ m e b, k = .const m ∧ P.underlying t = some (.pointer b) ∧ P.underlying b = some (.array m e)))
    (he : evOp (.len k x') g h = some (v, h')) : Step P (do pure (.value (← Builtin.len_ #[t] ty #[a.eval x]))) ρ h w v h' := by
  have d2 := opd_den hf h2
  simp only [evOp] at he
  split at he
  · rename_i s hx
    rw [hx, str_den] at d2
    simp only [Option.some.injEq, Prod.mk.injEq] at he
    obtain ⟨rfl, rfl⟩ := he
    have ht : P.underlying t = some .string := by
      rcases hk with ⟨_, h⟩ | ⟨h, _⟩ | ⟨h, _⟩ | ⟨_, _, h, _⟩ | ⟨_, _, _, h, _⟩ <;> first | exact h | cases h
    refine .value (x := .int .i64 s.length) hr ?_ rfl
    rw [d2]
    simp [Builtin.len_, run_underlying ht, goInt]
    rfl
  · rename_i id off m cap hx
    rw [hx, den_slice] at d2
    obtain ⟨r, _, d2⟩ := d2
    simp only [Option.some.injEq, Prod.mk.injEq] at he
    obtain ⟨rfl, rfl⟩ := he
    have ht : ∃ e, P.underlying t = some (.slice e) := by
      rcases hk with ⟨h, _⟩ | ⟨_, h⟩ | ⟨h, _⟩ | ⟨_, _, h, _⟩ | ⟨_, _, _, h, _⟩ <;> first | exact h | cases h
    obtain ⟨e, ht⟩ := ht
    refine .value (x := .int .i64 m) hr ?_ rfl
    rw [d2]
    simp [Builtin.len_, run_underlying ht, goInt]
  · rename_i hx
    rw [hx] at d2
    simp only [AV.den, Option.some.injEq] at d2
    simp only [Option.some.injEq, Prod.mk.injEq] at he
    obtain ⟨rfl, rfl⟩ := he
    have ht : ∃ e, P.underlying t = some (.slice e) := by
      rcases hk with ⟨h, _⟩ | ⟨_, h⟩ | ⟨h, _⟩ | ⟨_, _, h, _⟩ | ⟨_, _, _, h, _⟩ <;> first | exact h | cases h
    obtain ⟨e, ht⟩ := ht
    refine .value (x := .int .i64 0) hr ?_ rfl
    rw [← d2]
    simp [Builtin.len_, run_underlying ht, goInt]
  · rename_i hx
    rw [hx] at d2
    simp only [AV.den, Option.some.injEq] at d2
    simp only [Option.some.injEq, Prod.mk.injEq] at he
    obtain ⟨rfl, rfl⟩ := he
    have ht : ∃ e f, P.underlying t = some (.map e f) := by
      rcases hk with ⟨h, _⟩ | ⟨h, _⟩ | ⟨_, h⟩ | ⟨_, _, h, _⟩ | ⟨_, _, _, h, _⟩ <;> first | exact h | cases h
    obtain ⟨e, f, ht⟩ := ht
    refine .value (x := .int .i64 0) hr ?_ rfl
    rw [← d2]
    simp [Builtin.len_, run_underlying ht, goInt]
  · rename_i id hx
    rw [hx, den_map] at d2
    obtain ⟨r, hρ, d2⟩ := d2
    split at he
    · rename_i es clock ho
      simp only [Option.some.injEq, Prod.mk.injEq] at he
      obtain ⟨rfl, rfl⟩ := he
      have ht : ∃ e f, P.underlying t = some (.map e f) := by
        rcases hk with ⟨h, _⟩ | ⟨h, _⟩ | ⟨_, h⟩ | ⟨_, _, h, _⟩ | ⟨_, _, _, h, _⟩ <;> first | exact h | cases h
      obtain ⟨e, f, ht⟩ := ht
      obtain ⟨r', h1, l, h3, h4⟩ := hr.obj id _ ho
      rw [hρ] at h1
      injection h1 with h1
      subst h1
      have hl := entryDen_length h4
      refine .value (x := .int .i64 es.length) hr ?_ rfl
      rw [d2]
      simp [Builtin.len_, run_underlying ht, goInt, getObj, Sem.run, h3, hl]
    · cases he
  · rename_i m
    simp only [Option.some.injEq, Prod.mk.injEq] at he
    obtain ⟨rfl, rfl⟩ := he
    refine .value (x := .int .i64 m) hr ?_ rfl
    rcases hk with ⟨h, _⟩ | ⟨h, _⟩ | ⟨h, _⟩ | ⟨m', e, h, ht⟩ | ⟨m', e, b, h, ht, hb⟩
    · cases h
    · cases h
    · cases h
    · injection h with h
      subst h
      simp [Builtin.len_, run_underlying ht, goInt]
    · injection h with h
      subst h
      simp [Builtin.len_, run_underlying ht, run_underlying hb, goInt]
  · cases he

theorem step_cap (hf : FRel n ρ g a) (hr : HRel ρ h w) {t e : TypeId} {x : Operand} {x' : Opd} (h2 : compOpd x = some x') {ty : TypeId} (ht : P.underlying t = some (.slice e))
    (he : evOp (.cap x') g h = some (v, h')) : Step P (do pure (.value (← Builtin.cap_ #[t] ty #[a.eval x]))) ρ h w v h' := by
  have d2 := opd_den hf h2
  simp only [evOp] at he
  split at he
  · rename_i id off m c hx
    rw [hx, den_slice] at d2
    obtain ⟨r, _, d2⟩ := d2
    simp only [Option.some.injEq, Prod.mk.injEq] at he
    obtain ⟨rfl, rfl⟩ := he
    refine .value (x := .int .i64 c) hr ?_ rfl
    rw [d2]
    simp [Builtin.cap_, run_underlying ht, goInt, Cap.den]
  · rename_i hx
    rw [hx] at d2
    simp only [AV.den, Option.some.injEq] at d2
    simp only [Option.some.injEq, Prod.mk.injEq] at he
    obtain ⟨rfl, rfl⟩ := he
    refine .value (x := .int .i64 0) hr ?_ rfl
    rw [← d2]
    simp [Builtin.cap_, run_underlying ht, goInt]
  · cases he

theorem step_toArr (hf : FRel n ρ g a) (hr : HRel ρ h w) {t e : TypeId} {m : Nat} {x : Operand} {x' : Opd} (h2 : compOpd x = some x') (ht : P.underlying t = some (.array m e))
    (he : evOp (.toArr m x') g h = some (v, h')) : Step P (do pure (.value (← Instr.arrayAt t (a.eval x)))) ρ h w v h' := by
  have d2 := opd_den hf h2
  simp only [evOp] at he
  split at he
  · rename_i id off len c hx
    rw [hx, den_slice] at d2
    obtain ⟨r, hρ, d2⟩ := d2
    split at he
    · rename_i hle
      simp only [Option.some.injEq, Prod.mk.injEq] at he
      obtain ⟨rfl, rfl⟩ := he
      rw [d2]
      refine .value hr ?_ (den_ptr.2 ⟨r, hρ, rfl⟩)
      simp [Instr.arrayAt, run_underlying ht, Nat.not_lt.2 hle]
    · cases he
  · cases he

theorem maxs_run (hf : FRel n ρ g a) (isMax : Bool) : ∀ (l : List Operand) (ys : List Opd) (u v : AV) (x : Value), compOpds l = some ys → maxs isMax g ys u = some v → u.den ρ = some x →
    ∃ z, ((l.map a.eval).foldlM (if isMax then Builtin.max2 else Builtin.min2) x).run P w = .ok z w ∧ v.den ρ = some z
  | [], ys, u, v, x, hc, hm, hx => by
    simp only [compOpds, Option.some.injEq] at hc
    subst hc
    simp only [maxs, Option.some.injEq] at hm
    subst hm
    exact ⟨x, by simp, hx⟩
  | o :: l, ys, u, v, x, hc, hm, hx => by
    simp only [compOpds, opt_some, Option.some.injEq] at hc
    obtain ⟨y, h1, l', h2, rfl⟩ := hc
    simp only [maxs, opt_some] at hm
    obtain ⟨t, h3, h4⟩ := hm
    have dy := opd_den hf h1
    unfold two at h3
    split at h3
    · rename_i k p k' q hy
      rw [hy] at dy
      rw [int_den] at hx dy
      injection h3 with h3
      subst h3
      obtain ⟨z, hz, hd⟩ := maxs_run hf isMax l l' _ v (.int k (if isMax then (if q > p then q else p) else (if q < p then q else p))) h2 h4 rfl
      refine ⟨z, ?_, hd⟩
      cases isMax
      · simp only [List.map_cons, List.foldlM_cons, Sem.run_bind, hx, dy, Builtin.min2, Sem.run_pure, Result.andThen_ok, Bool.false_eq_true, if_false] at hz ⊢
        exact hz
      · simp only [List.map_cons, List.foldlM_cons, Sem.run_bind, hx, dy, Builtin.max2, Sem.run_pure, Result.andThen_ok, if_true] at hz ⊢
        exact hz
    · cases h3

theorem step_maxmin (hf : FRel n ρ g a) (hr : HRel ρ h w) (isMax : Bool) {l : List Operand} {x' : Opd} {ys : List Opd} {ts : Array TypeId} {ty : TypeId} (hc : compOpds l = some (x' :: ys))
    (he : evOp (.maxmin isMax x' ys) g h = some (v, h')) : Step P (do pure (.value (← (if isMax then Builtin.max_ ts ty (l.map a.eval).toArray else Builtin.min_ ts ty (l.map a.eval).toArray)))) ρ h w v h' := by
  simp only [evOp] at he
  obtain ⟨u, e1, e2⟩ := pure1_some he
  simp only [Prod.mk.injEq] at e2
  obtain ⟨rfl, rfl⟩ := e2
  cases l with
  | nil => simp [compOpds] at hc
  | cons o l =>
    simp only [compOpds, opt_some, Option.some.injEq] at hc
    obtain ⟨y, h1, l', h2, h3⟩ := hc
    injection h3 with h3 h4
    subst h3 h4
    obtain ⟨z, hz, hd⟩ := maxs_run (P := P) (w := w) hf isMax l l' _ _ _ h2 e1 (opd_den hf h1)
    refine .value hr ?_ hd
    cases isMax
    · simpa [Builtin.min_] using hz
    · simpa [Builtin.max_] using hz

theorem step_makeFunc (hf : FRel n ρ g a) (hr : HRel ρ h w) {fn : Fn} (hfn : ∀ l, fn ≠ .yield l) {p q : Array Operand} {p' q' : List Opd} (h2 : compOpds p.toList = some p') (h3 : compOpds q.toList = some q')
    (he : evOp (.makeFunc fn p' q') g h = some (v, h')) : Step P (do pure (.value (← Instr.makeFunc fn (p.map a.eval) (q.map a.eval)))) ρ h w v h' := by
  simp only [evOp, Option.some.injEq, Prod.mk.injEq] at he
  obtain ⟨rfl, rfl⟩ := he
  refine .value (x := .func fn (p.map a.eval) (q.map a.eval)) hr rfl (den_func.2 ⟨fn, _, _, ?_, opds_den hf h2, opds_den hf h3, ?_⟩)
  · cases fn <;> first | rfl | exact absurd rfl (hfn _)
  · simp [← Array.toList_map]
end
end Go.Am

/- Slicing; struct and array values; equality; looking up. -/
namespace Go.Am
section
variable {P : Program} {n : Nat} {ρ : Env} {g : RT} {a : Act} {h h' : AH} {w : World} {v : AV}

theorem sliceB_run {x : AV} {y m : Nat} {x' : Value} (hb : sliceB x y = some m) (hx : x.den ρ = some x') (code : BoundsCode) : (Instr.sliceBound x' y code).run P w = .ok m w ∧ m ≤ y := by
  unfold sliceB at hb
  split at hb
  · rename_i k i
    rw [int_den] at hx
    subst hx
    split at hb
    · rename_i hi
      injection hb with hb
      subst hb
      refine ⟨?_, by omega⟩
      simp [Instr.sliceBound, asIntOf, hi]
    · cases hb
  · cases hb

/-- an optional bound, on both sides -/
def ORel (ρ : Env) (x : Option AV) (x' : Option Value) : Prop :=
  match x, x' with
  | none, none => True
  | some x, some x' => x.den ρ = some x'
  | _, _ => False

theorem opdo_rel (hf : FRel n ρ g a) {x : Option Operand} {y : Option Opd} (hc : compOpt x = some y) : ORel ρ (y.map (·.ev g)) (x.map a.eval) := by
  rcases opdo_den hf hc with ⟨rfl, rfl⟩ | ⟨u, v, z, rfl, rfl, rfl, hz⟩
  · trivial
  · exact hz

theorem sliceBounds_run {lo hi mx : Option AV} {lo' hi' mx' : Option Value} (isSlice : Bool) {len cap m hh l : Nat} (h1 : ORel ρ lo lo') (h2 : ORel ρ hi hi') (h3 : ORel ρ mx mx') (hmx : mx.isSome = true → hi.isSome = true)
    (e1 : optB mx cap cap = some m) (e2 : optB hi m len = some hh) (e3 : optB lo hh 0 = some l) : (Instr.sliceBounds isSlice len cap lo' hi' mx').run P w = .ok (l, hh, m) w := by
  unfold Instr.sliceBounds
  cases mx with
  | none =>
    cases mx' with
    | some _ => exact h3.elim
    | none =>
      simp only [optB, Option.some.injEq] at e1
      subst e1
      cases hi with
      | none =>
        cases hi' with
        | some _ => exact h2.elim
        | none =>
          simp only [optB, Option.some.injEq] at e2
          subst e2
          cases lo with
          | none =>
            cases lo' with
            | some _ => exact h1.elim
            | none => simp only [optB, Option.some.injEq] at e3; subst e3; simp
          | some lo =>
            cases lo' with
            | none => exact h1.elim
            | some lo' => simp [(sliceB_run (P := P) (w := w) e3 h1 _).1]
      | some hi =>
        cases hi' with
        | none => exact h2.elim
        | some hi' =>
          cases lo with
          | none =>
            cases lo' with
            | some _ => exact h1.elim
            | none => simp only [optB, Option.some.injEq] at e3; subst e3; simp [(sliceB_run (P := P) (w := w) e2 h2 _).1]
          | some lo =>
            cases lo' with
            | none => exact h1.elim
            | some lo' => simp [(sliceB_run (P := P) (w := w) e3 h1 _).1, (sliceB_run (P := P) (w := w) e2 h2 _).1]
  | some mx =>
    cases mx' with
    | none => exact h3.elim
    | some mx' =>
      cases hi with
      | none => exact absurd (hmx rfl) (by simp)
      | some hi =>
        cases hi' with
        | none => exact h2.elim
        | some hi' =>
          cases lo with
          | none =>
            cases lo' with
            | some _ => exact h1.elim
            | none => simp only [optB, Option.some.injEq] at e3; subst e3; simp [(sliceB_run (P := P) (w := w) e2 h2 _).1, (sliceB_run (P := P) (w := w) e1 h3 _).1]
          | some lo =>
            cases lo' with
            | none => exact h1.elim
            | some lo' => simp [(sliceB_run (P := P) (w := w) e3 h1 _).1, (sliceB_run (P := P) (w := w) e2 h2 _).1, (sliceB_run (P := P) (w := w) e1 h3 _).1]

theorem mx_map {mx hi : Option Opd} (hm : mx.isSome = true → hi.isSome = true) : (mx.map (·.ev g)).isSome = true → (hi.map (·.ev g)).isSome = true := by
  cases mx <;> cases hi <;> simp_all

/-- where a slice of a row begins -/
theorem slice_place (b o e m l : Nat) : (if m = l then (⟨b, o, none⟩ : Addr) else (⟨b, o, none⟩ : Addr).add (l * e)) = ⟨b, if m = l then o else o + l * e, none⟩ := by
  split
  · rfl
  · rw [addr_add]

theorem step_sliceArr (hf : FRel n ρ g a) (hr : HRel ρ h w) {t e : TypeId} {len s : Nat} (ht : P.underlying t = some (.array len e) ∨ ∃ b, P.underlying t = some (.pointer b) ∧ P.underlying b = some (.array len e)) (hs : sizeOfT P e = some s)
    {x : Operand} {x' : Opd} {lo hi mx : Option Operand} {lo' hi' mx' : Option Opd} (h2 : compOpd x = some x') (h3 : compOpt lo = some lo') (h4 : compOpt hi = some hi') (h5 : compOpt mx = some mx') (hm : mx'.isSome = true → hi'.isSome = true)
    (he : evOp (.sliceArr len s x' lo' hi' mx') g h = some (v, h')) : Step P (do pure (.value (← Instr.sliceAt t (a.eval x) (lo.map a.eval) (hi.map a.eval) (mx.map a.eval)))) ρ h w v h' := by
  have d2 := opd_den hf h2
  simp only [evOp] at he
  split at he
  · rename_i id off hx
    rw [hx, den_ptr] at d2
    obtain ⟨r, hρ, d2⟩ := d2
    obtain ⟨u, e1, e2⟩ := pure1_some he
    simp only [Prod.mk.injEq] at e2
    obtain ⟨rfl, rfl⟩ := e2
    obtain ⟨m, k1, e3⟩ := opt_some.1 e1
    obtain ⟨hh, k2, e4⟩ := opt_some.1 e3
    obtain ⟨l, k3, e5⟩ := opt_some.1 e4
    injection e5 with e5
    subst e5
    have hb := sliceBounds_run (P := P) (w := w) false (opdo_rel hf h3) (opdo_rel hf h4) (opdo_rel hf h5) (mx_map hm) k1 k2 k3
    rw [d2]
    refine .value hr ?_ (den_slice.2 ⟨r, hρ, rfl⟩)
    rcases ht with ht | ⟨b, ht, hb'⟩
    · simp only [Instr.sliceAt, Instr.sureAddr, Sem.run_bind, Sem.run_pure, Result.andThen_ok, run_underlying ht, hb, sizeOfT_run hs, slice_place, Cap.den]
      congr 4
      split <;> simp [Nat.add_assoc]
    · simp only [Instr.sliceAt, Instr.slice, asAddr, Sem.run_bind, Sem.run_pure, Result.andThen_ok, run_underlying ht, run_underlying hb', hb, sizeOfT_run hs, slice_place, Cap.den]
      congr 4
      split <;> simp [Nat.add_assoc]
  · cases he

theorem ba_extract (s : List UInt8) (l hh : Nat) : (⟨s.toArray⟩ : ByteArray).extract l hh = ⟨((s.take hh).drop l).toArray⟩ := by
  apply ByteArray.ext
  rw [ByteArray.data_extract]
  apply Array.ext'
  simp [List.drop_take]

theorem step_sliceStr (hf : FRel n ρ g a) (hr : HRel ρ h w) {t : TypeId} (ht : P.underlying t = some .string)
    {x : Operand} {x' : Opd} {lo hi : Option Operand} {lo' hi' : Option Opd} (h2 : compOpd x = some x') (h3 : compOpt lo = some lo') (h4 : compOpt hi = some hi')
    (he : evOp (.sliceStr x' lo' hi') g h = some (v, h')) : Step P (do pure (.value (← Instr.sliceAt t (a.eval x) (lo.map a.eval) (hi.map a.eval) none))) ρ h w v h' := by
  have d2 := opd_den hf h2
  simp only [evOp] at he
  split at he
  · rename_i s hx
    rw [hx, str_den] at d2
    obtain ⟨u, e1, e2⟩ := pure1_some he
    simp only [Prod.mk.injEq] at e2
    obtain ⟨rfl, rfl⟩ := e2
    obtain ⟨hh, k2, e4⟩ := opt_some.1 e1
    obtain ⟨l, k3, e5⟩ := opt_some.1 e4
    injection e5 with e5
    subst e5
    have hb := sliceBounds_run (P := P) (w := w) (mx := none) (mx' := none) false (opdo_rel hf h3) (opdo_rel hf h4) trivial (by simp) (m := s.length) rfl k2 k3
    rw [d2]
    refine .value (x := .string ⟨((s.take hh).drop l).toArray⟩) hr ?_ rfl
    have hsz : (⟨s.toArray⟩ : ByteArray).size = s.length := rfl
    simp only [Instr.sliceAt, Instr.slice, Sem.run_bind, Sem.run_pure, Result.andThen_ok, run_underlying ht, hsz, Option.isSome_none, Bool.false_eq_true, if_false, hb]
    rw [ba_extract]
  · cases he

theorem step_sliceSl (hf : FRel n ρ g a) (hr : HRel ρ h w) {t e : TypeId} {s : Nat} (ht : P.underlying t = some (.slice e)) (hs : sizeOfT P e = some s) {ph : Bool}
    {x : Operand} {x' : Opd} {lo hi mx : Option Operand} {lo' hi' mx' : Option Opd} (h2 : compOpd x = some x') (h3 : compOpt lo = some lo') (h4 : compOpt hi = some hi') (h5 : compOpt mx = some mx') (hm : mx'.isSome = true → hi'.isSome = true)
    (hfr : ∀ id, h.next ≤ id → id < h'.next → ρ id = none)
    (he : evOp (.sliceSl s ph x' lo' hi' mx') g h = some (v, h')) : Step P (do pure (.value (← Instr.sliceAt t (a.eval x) (lo.map a.eval) (hi.map a.eval) (mx.map a.eval)))) ρ h w v h' := by
  have d2 := opd_den hf h2
  simp only [evOp] at he
  unfold sliceSlV at he
  split at he
  · rename_i hx
    rw [hx] at d2
    simp only [AV.den, Option.some.injEq] at d2
    obtain ⟨m, k1, e3⟩ := opt_some.1 he
    obtain ⟨hh, k2, e4⟩ := opt_some.1 e3
    obtain ⟨l, k3, e5⟩ := opt_some.1 e4
    simp only [Option.some.injEq, Prod.mk.injEq] at e5
    obtain ⟨rfl, rfl⟩ := e5
    have hb := sliceBounds_run (P := P) (w := w) true (opdo_rel hf h3) (opdo_rel hf h4) (opdo_rel hf h5) (mx_map hm) k1 k2 k3
    rw [← d2]
    refine .value (x := .slice none 0 0) hr ?_ rfl
    have m0 : m = 0 := by
      unfold optB at k1; split at k1
      · injection k1 with k1; exact k1.symm
      · exact Nat.le_zero.1 (by rename_i q; unfold sliceB at k1; split at k1 <;> (try split at k1) <;> simp_all <;> omega)
    have h0 : hh = 0 := by
      unfold optB at k2; split at k2
      · injection k2 with k2; exact k2.symm
      · subst m0; exact Nat.le_zero.1 (by rename_i q; unfold sliceB at k2; split at k2 <;> (try split at k2) <;> simp_all <;> omega)
    have l0 : l = 0 := by
      unfold optB at k3; split at k3
      · injection k3 with k3; exact k3.symm
      · subst h0; exact Nat.le_zero.1 (by rename_i q; unfold sliceB at k3; split at k3 <;> (try split at k3) <;> simp_all <;> omega)
    subst m0 h0 l0
    simp only [Instr.sliceAt, Instr.slice, Sem.run_bind, Sem.run_pure, Result.andThen_ok, run_underlying ht, hb, sizeOfT_run hs]
    simp
  · rename_i id off len c hx
    rw [hx, den_slice] at d2
    obtain ⟨r, hρ, d2⟩ := d2
    obtain ⟨m, k1, e3⟩ := opt_some.1 he
    obtain ⟨hh, k2, e4⟩ := opt_some.1 e3
    obtain ⟨l, k3, e5⟩ := opt_some.1 e4
    simp only [Option.some.injEq, Prod.mk.injEq] at e5
    obtain ⟨rfl, rfl⟩ := e5
    have hb := sliceBounds_run (P := P) (w := w) true (opdo_rel hf h3) (opdo_rel hf h4) (opdo_rel hf h5) (mx_map hm) k1 k2 k3
    rw [d2]
    refine .value hr ?_ (den_slice.2 ⟨r, hρ, rfl⟩)
    simp only [Instr.sliceAt, Instr.slice, Sem.run_bind, Sem.run_pure, Result.andThen_ok, run_underlying ht, Cap.den, hb, sizeOfT_run hs, Option.map_some, addr_add]
    congr 2
    split <;> simp [Nat.add_assoc]
  · rename_i id off len b hx
    rw [hx, den_slice] at d2
    obtain ⟨r, hρ, d2⟩ := d2
    have hcap : capOf h id b s ≤ r.cap - b := by
      unfold capOf
      split
      · rename_i e' cs ho
        split
        · rename_i hee
          subst hee
          obtain ⟨c, ty, fz, vs, tail, q1, _, q3, q4, q5, q6⟩ := hr.row ho hρ
          obtain ⟨p1, p2⟩ := q6 rfl
          have hl := denL_length q3
          have : cs.length / e' ≤ r.cap := Nat.div_le_of_le_mul (by rw [Nat.mul_comm, p2]; omega)
          omega
        · exact Nat.zero_le _
      · exact Nat.zero_le _
    split at he
    · rename_i mxv hmx
      obtain ⟨m, k1, e3⟩ := opt_some.1 he
      obtain ⟨hh, k2, e4⟩ := opt_some.1 e3
      obtain ⟨l, k3, e5⟩ := opt_some.1 e4
      simp only [Option.some.injEq, Prod.mk.injEq] at e5
      obtain ⟨rfl, rfl⟩ := e5
      have h5' := opdo_rel hf h5
      rw [hmx] at h5'
      have k1' : optB (some mxv) (r.cap - b) (r.cap - b) = some m := by
        simp only [optB]
        unfold sliceB at k1 ⊢
        split at k1
        · split at k1
          · rename_i hq
            rw [if_pos ⟨hq.1, by omega⟩]
            exact k1
          · cases k1
        · cases k1
      have hmm : (some mxv : Option AV).isSome = true → (hi'.map (·.ev g)).isSome = true := by rw [← hmx]; exact mx_map hm
      have hb := sliceBounds_run (P := P) (w := w) (cap := r.cap - b) true (opdo_rel hf h3) (opdo_rel hf h4) h5' hmm k1' k2 k3
      rw [d2]
      refine .value hr ?_ (den_slice.2 ⟨r, hρ, rfl⟩)
      simp only [Instr.sliceAt, Instr.slice, Sem.run_bind, Sem.run_pure, Result.andThen_ok, run_underlying ht, Cap.den, hb, sizeOfT_run hs, Option.map_some, addr_add]
      congr 2
      split <;> simp [Nat.add_assoc]
    · rename_i hmx
      obtain ⟨hh, k2, e4⟩ := opt_some.1 he
      obtain ⟨l, k3, e5⟩ := opt_some.1 e4
      have h5' := opdo_rel hf h5
      rw [hmx] at h5'
      have k2' : optB (hi'.map (·.ev g)) (r.cap - b) len = some hh := by
        unfold optB at k2 ⊢
        split at k2
        · exact k2
        · unfold sliceB at k2 ⊢
          split at k2
          · split at k2
            · rename_i hq
              rw [if_pos ⟨hq.1, by omega⟩]
              exact k2
            · cases k2
          · cases k2
      have hb := sliceBounds_run (P := P) (w := w) (cap := r.cap - b) (mx := none) true (opdo_rel hf h3) (opdo_rel hf h4) h5' (by simp) (m := r.cap - b) rfl k2' k3
      rw [d2]
      have hrun : (Instr.sliceAt t (.slice (some ⟨r.block, r.off + off, none⟩) len (r.cap - b)) (lo.map a.eval) (hi.map a.eval) (mx.map a.eval)).run P w =
          .ok (.slice (some ⟨r.block, if r.cap - b = l then r.off + off else r.off + off + l * s, none⟩) (hh - l) (r.cap - b - l)) w := by
        simp only [Instr.sliceAt, Instr.slice, Sem.run_bind, Sem.run_pure, Result.andThen_ok, run_underlying ht, hb, sizeOfT_run hs, Option.map_some, addr_add]
        congr 2
        split <;> rfl
      split at e5
      · rename_i hl
        subst hl
        simp only [Option.some.injEq, Prod.mk.injEq] at e5
        obtain ⟨rfl, rfl⟩ := e5
        refine .value hr hrun (den_slice.2 ⟨r, hρ, ?_⟩)
        simp [Cap.den]
      · rename_i hl
        split at e5
        · rename_i hlt
          simp only [Option.some.injEq, Prod.mk.injEq] at e5
          obtain ⟨rfl, rfl⟩ := e5
          refine .value hr hrun (den_slice.2 ⟨r, hρ, ?_⟩)
          rw [if_neg (by omega)]
          simp [Cap.den, Nat.sub_sub, Nat.add_assoc]
        · split at e5
          · rename_i hlh
            simp only [Option.some.injEq, Prod.mk.injEq] at e5
            obtain ⟨rfl, rfl⟩ := e5
            have hnone : ρ h.next = none := hfr _ (Nat.le_refl _) (Nat.lt_succ_self _)
            refine .value' hrun (den_slice.2 ⟨_, Env.set_same _ _ _, ?_⟩) (Trans.phantom ⟨r.block, if r.cap - b = l then r.off + off else r.off + off + l * s, r.cap - b - l, default⟩ hr hnone)
            simp [Cap.den, hlh.1]
          · cases e5
  · cases he

/-! ### struct and array values -/
theorem fill_step (cells xs : Array Value) (off : Nat) (h : off + xs.size ≤ cells.size) :
    (xs.zipIdx.foldl (fun cs (c, j) => cs.setIfInBounds (off + j) c) cells).toList = cells.toList.take off ++ xs.toList ++ cells.toList.drop (off + xs.size) := by
  rw [← Array.foldl_toList, Array.toList_zipIdx]
  have key : ∀ (l : List Value) (k : Nat) (cs : Array Value), off + k + l.length ≤ cs.size →
      ((l.zipIdx k).foldl (fun cs (c, j) => cs.setIfInBounds (off + j) c) cs).toList = cs.toList.take (off + k) ++ l ++ cs.toList.drop (off + k + l.length) := by
    intro l
    induction l with
    | nil => intro k cs _; simp
    | cons v l ih =>
      intro k cs hk
      simp only [List.length_cons] at hk
      rw [List.zipIdx_cons, List.foldl_cons, ih (k + 1) _ (by simp; omega)]
      have hlen : off + k < cs.toList.length := by simp; omega
      rw [Array.toList_setIfInBounds, show off + (k + 1) = off + k + 1 from rfl, take_set_succ _ _ _ hlen, drop_set_succ _ _ _ _ (by omega), List.length_cons,
        show off + k + 1 + l.length = off + k + (l.length + 1) by omega]
      simp
  have := key xs.toList 0 cells (by simpa using h)
  simpa using this

theorem parts_run (place : Nat → Option (Nat × Nat)) : ∀ (ps : List (Nat × AV)) (qs : List (Nat × Nat × AV)) (ys : List (Nat × Value)) (cells : List AV) (cs : Array Value) (out : List AV),
    (qs = ps.map fun (i, v) => (((place i).getD (0, 0)).1, ((place i).getD (0, 0)).2, v)) → (∀ p ∈ ps, (place p.1).isSome = true) →
    (ys.map (·.1) = ps.map (·.1)) → (denL ρ (ps.map (·.2)) = some (ys.map (·.2))) → denL ρ cells = some cs.toList → fillParts cells qs = some out →
    ∃ zs : Array Value, Instr.fill place cs ys = some zs ∧ denL ρ out = some zs.toList
  | [], qs, ys, cells, cs, out, hq, _, h1, _, hc, hf => by
    subst hq
    have : ys = [] := by simpa using h1
    subst this
    simp only [List.map_nil, fillParts, Option.some.injEq] at hf
    subst hf
    exact ⟨cs, rfl, hc⟩
  | (i, v) :: ps, qs, ys, cells, cs, out, hq, hp, h1, h2, hc, hf => by
    subst hq
    cases ys with
    | nil => simp at h1
    | cons y ys =>
      obtain ⟨j, x⟩ := y
      simp only [List.map_cons, List.cons.injEq] at h1
      obtain ⟨rfl, h1⟩ := h1
      simp only [List.map_cons] at h2
      obtain ⟨x', ys', k1, k2, k3⟩ := denL_cons.1 h2
      injection k3 with k3 k4
      subst k3 k4
      have hpi := hp (j, v) (List.mem_cons_self ..)
      simp only at hpi
      obtain ⟨⟨off, size⟩, hpl⟩ := Option.isSome_iff_exists.1 hpi
      simp only [List.map_cons, hpl, Option.getD_some, fillParts] at hf
      split at hf
      · rename_i hle
        obtain ⟨e1, e2⟩ := hle
        have hx := den_cells k1
        have hxl : x.cells.size = size := by have := denL_length hx; simp at this; omega
        have hcl : cs.size = cells.length := by have := denL_length hc; simpa using this
        simp only [Instr.fill, hpl]
        rw [if_neg (by simp; omega)]
        refine parts_run place ps _ ys _ _ out rfl (fun p hp' => hp p (List.mem_cons_of_mem _ hp')) h1 k2 ?_ hf
        rw [fill_step _ _ _ (by omega)]
        have := denL_splice off hc hx
        rw [this]
        congr 3
        omega
      · cases hf
end
end Go.Am

/- Struct values, equality, maps that are asked. -/
namespace Go.Am
section
variable {P : Program} {n : Nat} {ρ : Env} {g : RT} {a : Act} {h h' : AH} {w : World} {v : AV}

theorem compParts_spec (hf : FRel n ρ g a) {place : Nat → Option (Nat × Nat)} : ∀ {l : List (Nat × Operand)} {qs : List (Nat × Nat × Opd)}, compParts place l = some qs →
    ∃ ps : List (Nat × AV), (qs.map fun (a, b, x) => (a, b, x.ev g)) = (ps.map fun (i, v) => (((place i).getD (0, 0)).1, ((place i).getD (0, 0)).2, v)) ∧ (∀ p ∈ ps, (place p.1).isSome = true) ∧
      ((l.map fun (i, x) => (i, a.eval x)).map (·.1) = ps.map (·.1)) ∧ denL ρ (ps.map (·.2)) = some ((l.map fun (i, x) => (i, a.eval x)).map (·.2))
  | [], qs, hc => by
    simp only [compParts, Option.some.injEq] at hc
    subst hc
    exact ⟨[], rfl, (fun _ h => by cases h), rfl, rfl⟩
  | (i, x) :: l, qs, hc => by
    simp only [compParts, opt_some, Option.some.injEq] at hc
    obtain ⟨⟨o, s⟩, h1, y, h2, l', h3, rfl⟩ := hc
    obtain ⟨ps, k1, k2, k3, k4⟩ := compParts_spec hf h3
    refine ⟨(i, y.ev g) :: ps, ?_, ?_, ?_, ?_⟩
    · simp [h1, k1]
    · intro p hp
      rcases List.mem_cons.1 hp with rfl | hp
      · simp [h1]
      · exact k2 p hp
    · simp only [List.map_cons, k3]
    · simp only [List.map_cons]
      exact denL_cons.2 ⟨_, _, opd_den hf h2, k4, rfl⟩

theorem mapM_run {α β : Type} (f : α → Sem β) (q : α → β) : ∀ (l : List α), (∀ x ∈ l, (f x).run P w = .ok (q x) w) → (l.mapM f).run P w = .ok (l.map q) w
  | [], _ => by simp
  | x :: l, hx => by
    have h1 := hx x (List.mem_cons_self ..)
    have h2 := mapM_run f q l (fun y hy => hx y (List.mem_cons_of_mem _ hy))
    simp [List.mapM_cons, h1, h2]
theorem mapMA_run {α β : Type} (f : α → Sem β) (q : α → β) (l : Array α) (hx : ∀ x ∈ l, (f x).run P w = .ok (q x) w) : (l.mapM f).run P w = .ok (l.map q) w := by
  have e : l.mapM f = (do pure (← l.toList.mapM f).toArray) := by
    rw [Array.mapM_eq_mapM_toList]
    rfl
  rw [e]
  simp only [Sem.run_bind, mapM_run f q l.toList (fun x hx' => hx x (Array.mem_toList_iff.1 hx')), Result.andThen_ok, Sem.run_pure]
  congr 1
  apply Array.ext'
  simp

theorem step_build_struct (hf : FRel n ρ g a) (hr : HRel ρ h w) {t : TypeId} {fs : Array Field} {z : AV} (hz : zeroOfT P t = some z) (ht : P.underlying t = some (.struct fs)) (hall : (fs.all fun f => (sizeOfT P f.type).isSome) = true)
    {parts : Array (Nat × Operand)} {qs : List (Nat × Nat × Opd)} (hc : compParts (structPlace P fs) parts.toList = some qs)
    (he : evOp (.build z.cells qs) g h = some (v, h')) : Step P (do pure (.value (← Instr.build t (parts.map fun (i, x) => (i, a.eval x))))) ρ h w v h' := by
  simp only [evOp] at he
  obtain ⟨u, e1, e2⟩ := pure1_some he
  simp only [Prod.mk.injEq] at e2
  obtain ⟨rfl, rfl⟩ := e2
  obtain ⟨cs, e3, e4⟩ := opt_some.1 e1
  injection e4 with e4
  subst e4
  obtain ⟨x0, hx0, hd0⟩ := zeroOfT_run hz ρ w
  obtain ⟨ps, k1, k2, k3, k4⟩ := compParts_spec hf hc
  rw [k1] at e3
  have hpl : ∀ i, structPlace P fs i = (fs.map fun (f : Field) => (f.offset, P.cellsOf f.type))[i]? := fun i => by
    cases hi : fs[i]? with
    | none => simp [structPlace, opt, hi]
    | some f =>
      have hm : (sizeOfT P f.type).isSome = true := Array.all_eq_true_iff_forall_mem.1 hall f (Array.mem_of_getElem? hi)
      obtain ⟨s, hs⟩ := Option.isSome_iff_exists.1 hm
      have : P.cellsOf f.type = s := by
        simp only [sizeOfT, opt_some, Option.some.injEq] at hs
        obtain ⟨q, q1, q2⟩ := hs
        simp [Program.cellsOf, q1, q2]
      simp [structPlace, opt, hi, hs, this]
  obtain ⟨zs, f1, f2⟩ := parts_run (structPlace P fs) ps _ _ z.cells x0.cells cs rfl k2 k3 k4 (den_cells hd0) e3
  refine .value hr ?_ (den_agg.2 ⟨_, f2, rfl⟩)
  have hm : (fs.mapM fun (f : Field) => (do pure (f.offset, ← sizeOf f.type) : Sem (Nat × Nat))).run P w = .ok (fs.map fun (f : Field) => (f.offset, P.cellsOf f.type)) w := by
    refine mapMA_run _ _ _ fun f hf' => ?_
    have hm : (sizeOfT P f.type).isSome = true := Array.all_eq_true_iff_forall_mem.1 hall f hf'
    obtain ⟨s, hs⟩ := Option.isSome_iff_exists.1 hm
    have : P.cellsOf f.type = s := by
      simp only [sizeOfT, opt_some, Option.some.injEq] at hs
      obtain ⟨q, q1, q2⟩ := hs
      simp [Program.cellsOf, q1, q2]
    simp [sizeOfT_run hs, this]
  have hfill : Instr.fill ((fs.map fun (f : Field) => (f.offset, P.cellsOf f.type))[·]?) x0.cells (parts.map fun (i, x) => (i, a.eval x)).toList = some zs := by
    rw [← funext hpl, Array.toList_map]
    exact f1
  simp only [Instr.build, Sem.run_bind, hx0, Result.andThen_ok, run_underlying ht, hm, hfill, Sem.run_pure]

theorem step_build_array (hf : FRel n ρ g a) (hr : HRel ρ h w) {t e : TypeId} {m s : Nat} {z : AV} (hz : zeroOfT P t = some z) (ht : P.underlying t = some (.array m e)) (hs : sizeOfT P e = some s)
    {parts : Array (Nat × Operand)} {qs : List (Nat × Nat × Opd)} (hc : compParts (fun i => some (i * s, s)) parts.toList = some qs)
    (he : evOp (.build z.cells qs) g h = some (v, h')) : Step P (do pure (.value (← Instr.build t (parts.map fun (i, x) => (i, a.eval x))))) ρ h w v h' := by
  simp only [evOp] at he
  obtain ⟨u, e1, e2⟩ := pure1_some he
  simp only [Prod.mk.injEq] at e2
  obtain ⟨rfl, rfl⟩ := e2
  obtain ⟨cs, e3, e4⟩ := opt_some.1 e1
  injection e4 with e4
  subst e4
  obtain ⟨x0, hx0, hd0⟩ := zeroOfT_run hz ρ w
  obtain ⟨ps, k1, k2, k3, k4⟩ := compParts_spec hf hc
  rw [k1] at e3
  obtain ⟨zs, f1, f2⟩ := parts_run (fun i => some (i * s, s)) ps _ _ z.cells x0.cells cs rfl k2 k3 k4 (den_cells hd0) e3
  refine .value hr ?_ (den_agg.2 ⟨_, f2, rfl⟩)
  have hfill : Instr.fill (fun i => some (i * s, s)) x0.cells (parts.map fun (i, x) => (i, a.eval x)).toList = some zs := by
    rw [Array.toList_map]
    exact f1
  simp only [Instr.build, Sem.run_bind, hx0, Result.andThen_ok, run_underlying ht, sizeOfT_run hs, hfill, Sem.run_pure]

end
end Go.Am

/- Equality of values; maps that are asked. -/
namespace Go.Am
section
variable {P : Program} {n : Nat} {ρ : Env} {g : RT} {a : Act} {h h' : AH} {w : World} {v : AV}

theorem run_eq_bool {t : TypeId} (d : Nat) (a b : Bool) (h : P.underlying t = some .bool) : (Op.equalIn (d + 1) t (.bool a) (.bool b)).run P w = .ok (a == b) w := by
  simp only [Op.equalIn, Sem.run_bind, run_underlying h, Result.andThen_ok, Sem.run_pure]
theorem run_eq_int {t : TypeId} (d : Nat) (j k : IntKind) (a b : Int) (h : P.underlying t = some (.int k)) : (Op.equalIn (d + 1) t (.int j a) (.int j b)).run P w = .ok (a == b) w := by
  simp only [Op.equalIn, Sem.run_bind, run_underlying h, Result.andThen_ok, if_true, Sem.run_pure]
theorem run_eq_str {t : TypeId} (d : Nat) (a b : ByteArray) (h : P.underlying t = some .string) : (Op.equalIn (d + 1) t (.string a) (.string b)).run P w = .ok (a == b) w := by
  simp only [Op.equalIn, Sem.run_bind, run_underlying h, Result.andThen_ok, Sem.run_pure]
theorem ba_beq (a b : List UInt8) : ((⟨a.toArray⟩ : ByteArray) == ⟨b.toArray⟩) = (a == b) := by
  rw [beq_toListBytes, ByteArray.toList_eq, ByteArray.toList_eq]

theorem scalar_eq {t : TypeId} {p : PTy} (ht : scalarTy P t = some p) {x y : AV} {x' y' : Value} {b : Bool} (he : eqTy p x y = some b) (hx : x.den ρ = some x') (hy : y.den ρ = some y') (d : Nat) (w : World) :
    (Op.equalIn (d + 1) t x' y').run P w = .ok b w := by
  simp only [scalarTy, opt_some] at ht
  obtain ⟨u, h1, h2⟩ := ht
  unfold eqTy at he
  split at he
  · rw [bool_den] at hx hy
    subst hx hy
    injection he with he
    subst he
    have : u = .bool := by cases u <;> simp at h2 <;> first | rfl | cases h2
    subst this
    exact run_eq_bool d _ _ h1
  · rw [int_den] at hx hy
    subst hx hy
    split at he
    · rename_i hk
      subst hk
      injection he with he
      subst he
      have : ∃ k, u = .int k := by cases u <;> simp at h2 <;> first | exact ⟨_, rfl⟩ | cases h2
      obtain ⟨k, rfl⟩ := this
      exact run_eq_int d _ k _ _ h1
    · cases he
  · rw [str_den] at hx hy
    subst hx hy
    injection he with he
    subst he
    have : u = .string := by cases u <;> simp at h2 <;> first | rfl | cases h2
    subst this
    rw [run_eq_str d _ _ h1, ba_beq]
  · cases he

theorem scalar_agg {t : TypeId} {p : PTy} (ht : scalarTy P t = some p) : aggT P t = some false := by
  simp only [scalarTy, opt_some] at ht
  obtain ⟨u, h1, h2⟩ := ht
  simp only [aggT, opt_some]
  refine ⟨u, h1, ?_⟩
  cases u <;> simp_all

theorem part_scalar {t : TypeId} {p : PTy} (ht : scalarTy P t = some p) {xs : List Value} {off : Nat} {x : Value} (hx : xs[off]? = some x) (w : World) : (part t xs.toArray off).run P w = .ok x w := by
  simp only [part, Sem.run_bind, aggT_run (scalar_agg ht), Result.andThen_ok, Bool.false_eq_true, if_false]
  have : xs.toArray[off]? = some x := by simpa using hx
  rw [this]
  rfl

/-- items of an array, from one on -/
theorem eqItems_run {e : TypeId} {p : PTy} (ht : scalarTy P e = some p) (d : Nat) (X Y : List Value) (w : World) : ∀ (m i : Nat) (xs ys : List AV) (b : Bool),
    eqTys (List.replicate m p) xs ys = some b → denL ρ xs = some (X.drop i) → denL ρ ys = some (Y.drop i) →
    (Op.eqItems (d + 1) e 1 X.toArray Y.toArray (List.range' i m)).run P w = .ok b w
  | 0, i, xs, ys, b, he, _, _ => by
    cases xs <;> cases ys <;> simp [eqTys] at he
    subst he
    rfl
  | m + 1, i, xs, ys, b, he, hx, hy => by
    rw [List.replicate_succ] at he
    cases xs with
    | nil => simp [eqTys] at he
    | cons x xs =>
      cases ys with
      | nil => simp [eqTys] at he
      | cons y ys =>
        simp only [eqTys] at he
        split at he
        · rename_i b1 b2 h1 h2
          injection he with he
          subst he
          obtain ⟨x', xr, k1, k2, k3⟩ := denL_cons.1 hx
          obtain ⟨y', yr, l1, l2, l3⟩ := denL_cons.1 hy
          have hX : X[i]? = some x' := by have := congrArg (·[0]?) k3; simpa using this
          have hY : Y[i]? = some y' := by have := congrArg (·[0]?) l3; simpa using this
          have hXr : X.drop (i + 1) = xr := by have := congrArg List.tail k3; simpa using this
          have hYr : Y.drop (i + 1) = yr := by have := congrArg List.tail l3; simpa using this
          rw [List.range'_succ]
          simp only [Op.eqItems, Sem.run_bind, Nat.mul_one, part_scalar ht hX, part_scalar ht hY, Result.andThen_ok, scalar_eq ht h1 k1 l1]
          cases b1
          · simp
          · simp only [Bool.not_true, Bool.false_eq_true, if_false, Bool.true_and]
            exact eqItems_run ht d X Y w m (i + 1) xs ys b2 h2 (by rw [hXr]; exact k2) (by rw [hYr]; exact l2)
        · cases he

theorem eqFields_run (d : Nat) (X Y : List Value) (w : World) : ∀ (fs : List Field) (i : Nat) (ts : List PTy) (xs ys : List AV) (b : Bool), fieldTys P i fs = some ts →
    eqTys ts xs ys = some b → denL ρ xs = some (X.drop i) → denL ρ ys = some (Y.drop i) → (Op.eqFields (d + 1) X.toArray Y.toArray fs).run P w = .ok b w
  | [], i, ts, xs, ys, b, hts, he, _, _ => by
    simp only [fieldTys, Option.some.injEq] at hts
    subst hts
    cases xs <;> cases ys <;> simp [eqTys] at he
    subst he
    rfl
  | f :: fs, i, ts, xs, ys, b, hts, he, hx, hy => by
    simp only [fieldTys] at hts
    split at hts
    · cases hts
    · rename_i hn
      obtain ⟨p, hp, hts2⟩ := opt_some.1 hts
      obtain ⟨l, hl, hts3⟩ := opt_some.1 hts2
      injection hts3 with hts3
      subst hts3
      have hn1 : f.name ≠ "_" := fun e => hn (.inl e)
      have hn2 : f.offset = i := Classical.byContradiction fun e => hn (.inr e)
      cases xs with
      | nil => simp [eqTys] at he
      | cons x xs =>
        cases ys with
        | nil => simp [eqTys] at he
        | cons y ys =>
          simp only [eqTys] at he
          split at he
          · rename_i b1 b2 h1 h2
            injection he with he
            subst he
            obtain ⟨x', xr, k1, k2, k3⟩ := denL_cons.1 hx
            obtain ⟨y', yr, l1, l2, l3⟩ := denL_cons.1 hy
            have hX : X[i]? = some x' := by have := congrArg (·[0]?) k3; simpa using this
            have hY : Y[i]? = some y' := by have := congrArg (·[0]?) l3; simpa using this
            have hXr : X.drop (i + 1) = xr := by have := congrArg List.tail k3; simpa using this
            have hYr : Y.drop (i + 1) = yr := by have := congrArg List.tail l3; simpa using this
            simp only [Op.eqFields, hn1, ne_eq, not_false_eq_true, if_true, Sem.run_bind, hn2, part_scalar hp hX, part_scalar hp hY, Result.andThen_ok, scalar_eq hp h1 k1 l1]
            cases b1
            · simp
            · simp only [Bool.not_true, Bool.false_eq_true, if_false, Bool.true_and]
              exact eqFields_run d X Y w fs (i + 1) l xs ys b2 hl h2 (by rw [hXr]; exact k2) (by rw [hYr]; exact l2)
          · cases he

/-- '==' at a type that this text knows -/
theorem eqVal_run {t : TypeId} {ts : List PTy} {agg : Bool} (ht : eqTysOf P t = some (ts, agg)) {x y : AV} {x' y' : Value} {b : Bool} (he : eqVal ts agg x y = some b) (hx : x.den ρ = some x') (hy : y.den ρ = some y') (d : Nat) (w : World) :
    (Op.equalIn (d + 2) t x' y').run P w = .ok b w := by
  simp only [eqTysOf, opt_some] at ht
  obtain ⟨u, hu, ht⟩ := ht
  have flat : ∀ p, scalarTy P t = some p → (ts, agg) = ([p], false) → (Op.equalIn (d + 2) t x' y').run P w = .ok b w := fun p hp e => by
    injection e with e1 e2
    subst e1 e2
    simp only [eqVal, eqTys] at he
    split at he
    · rename_i b1 b2 h1 h2
      injection he with he
      injection h2 with h2
      subst he h2
      rw [Bool.and_true]
      exact scalar_eq hp h1 hx hy (d + 1) w
    · cases he
  have aggs : ∀ (b' : Bool), agg = true → eqVal ts agg x y = some b' → ∃ p q, x = .agg p ∧ y = .agg q ∧ eqTys ts p q = some b' := fun b' e he' => by
    subst e
    unfold eqVal at he'
    split at he'
    · exact ⟨_, _, rfl, rfl, he'⟩
    · rename_i e; cases e
    · cases he'
  cases u with
  | array m e =>
    obtain ⟨p, hp, hc⟩ := opt_some.1 ht
    split at hc
    · rename_i hcond
      injection hc with hc
      injection hc with e1 e2
      obtain ⟨p', q', rfl, rfl, he'⟩ := aggs b e2.symm he
      obtain ⟨xs, k1, rfl⟩ := den_agg.1 hx
      obtain ⟨ys, l1, rfl⟩ := den_agg.1 hy
      obtain ⟨i, hi⟩ : ∃ i, P.info? e = some i := by
        have := hcond.1
        unfold Program.cellsOf at this
        cases hi : P.info? e with
        | none => simp [hi] at this
        | some i => exact ⟨i, rfl⟩
      rw [run_equalIn_array w (d + 1) xs.toArray ys.toArray hu hi, hcond.1, List.range_eq_range']
      subst e1
      exact eqItems_run hp d xs ys w m 0 p' q' b he' (by simpa using k1) (by simpa using l1)
    · cases hc
  | struct fs =>
    obtain ⟨l, hl, hc⟩ := opt_some.1 ht
    split at hc
    · rename_i hcond
      injection hc with hc
      injection hc with e1 e2
      obtain ⟨p', q', rfl, rfl, he'⟩ := aggs b e2.symm he
      obtain ⟨xs, k1, rfl⟩ := den_agg.1 hx
      obtain ⟨ys, l1, rfl⟩ := den_agg.1 hy
      have hfs : P.fieldsOf t = fs := by simp [Program.fieldsOf, hu]
      rw [run_equalIn_struct w (d + 1) t xs.toArray ys.toArray (by rw [hfs]; exact hu) hcond.1, hfs]
      subst e1
      exact eqFields_run d xs ys w fs.toList 0 l p' q' b hl he' (by simpa using k1) (by simpa using l1)
    · cases hc
  | _ =>
    obtain ⟨p, hp, hc⟩ := opt_some.1 ht
    injection hc with hc
    exact flat p hp hc.symm
end
end Go.Am

/- Comparisons, and maps that are asked. -/
namespace Go.Am
section
variable {P : Program} {n : Nat} {ρ : Env} {g : RT} {a : Act} {h h' : AH} {w : World} {v : AV}

theorem eqTysOf_guard {t : TypeId} {ts : List PTy} (ht : eqTysOf P t = some (ts, true)) : P.eqGuardType P.depth t = false := by
  simp only [eqTysOf, opt_some] at ht
  obtain ⟨u, hu, ht⟩ := ht
  cases u with
  | array m e =>
    obtain ⟨p, hp, hc⟩ := opt_some.1 ht
    split at hc
    · rename_i hcond; exact hcond.2
    · cases hc
  | struct fs =>
    obtain ⟨l, hl, hc⟩ := opt_some.1 ht
    split at hc
    · rename_i hcond; exact hcond.2
    · cases hc
  | _ =>
    obtain ⟨p, hp, hc⟩ := opt_some.1 ht
    injection hc with hc
    injection hc with _ hc
    cases hc

theorem eqVal_kinds {ts : List PTy} {agg : Bool} {x y : AV} {b : Bool} (he : eqVal ts agg x y = some b) :
    (agg = true ∧ ∃ p q, x = .agg p ∧ y = .agg q) ∨ (∃ p q, x = .bool p ∧ y = .bool q) ∨ (∃ i j k, x = .int i j ∧ y = .int i k) ∨ (∃ p q, x = .str p ∧ y = .str q) := by
  unfold eqVal at he
  split at he
  · exact .inl ⟨rfl, _, _, rfl, rfl⟩
  · cases ts with
    | nil => simp [eqTys] at he
    | cons p ts =>
      simp only [eqTys] at he
      split at he
      · rename_i b1 b2 h1 h2
        unfold eqTy at h1
        split at h1
        · exact .inr (.inl ⟨_, _, rfl, rfl⟩)
        · split at h1
          · rename_i hk; subst hk; exact .inr (.inr (.inl ⟨_, _, _, rfl, rfl⟩))
          · cases h1
        · exact .inr (.inr (.inr ⟨_, _, rfl, rfl⟩))
        · cases h1
      · cases he
  · cases he

theorem step_eql (hf : FRel n ρ g a) (hr : HRel ρ h w) (neg : Bool) {t : TypeId} {ts : List PTy} {agg : Bool} (ht : eqTysOf P t = some (ts, agg)) (hk : P.underlying t = some .bool ∨ agg = true)
    {x y : Operand} {x' y' : Opd} (h2 : compOpd x = some x') (h3 : compOpd y = some y')
    (he : evOp (.eql neg ts agg x' y') g h = some (v, h')) :
    Step P (do pure (.value (← (do eqGuard (if neg then .neq else .eql) t x y (a.eval x) (a.eval y); binOp (if neg then .neq else .eql) t (a.eval x) (a.eval y) : Sem Value)))) ρ h w v h' := by
  have d2 := opd_den hf h2
  have d3 := opd_den hf h3
  simp only [evOp] at he
  obtain ⟨u, e1, e2⟩ := pure1_some he
  simp only [Prod.mk.injEq] at e2
  obtain ⟨rfl, rfl⟩ := e2
  obtain ⟨b, e3, e4⟩ := opt_some.1 e1
  injection e4 with e4
  subst e4
  have hrun : (Op.equal t (a.eval x) (a.eval y)).run P w = .ok b w := eqVal_run ht e3 d2 d3 9998 w
  refine .value (x := .bool (if neg then !b else b)) hr ?_ rfl
  rcases eqVal_kinds e3 with ⟨hagg, p, q, hp, hq⟩ | ⟨p, q, hp, hq⟩ | ⟨i, j, k, hp, hq⟩ | ⟨p, q, hp, hq⟩
  · rw [hp, den_agg] at d2
    rw [hq, den_agg] at d3
    obtain ⟨xs, _, d2⟩ := d2
    obtain ⟨ys, _, d3⟩ := d3
    subst hagg
    have hg := eqTysOf_guard ht
    rw [d2, d3] at hrun ⊢
    cases neg
    · simp only [Bool.false_eq_true, if_false, eqGuard, Sem.run_bind, Sem.run_ite, Sem.run_pure, run_program, Result.andThen_ok, hg, Bool.not_false, if_true, binOp]
      simp only [Bool.not_true, ite_self, Bool.false_eq_true, Result.andThen_ok, hrun]
    · simp only [if_true, eqGuard, Sem.run_bind, Sem.run_ite, Sem.run_pure, run_program, Result.andThen_ok, hg, Bool.not_false, binOp]
      simp only [Bool.not_true, ite_self, Bool.false_eq_true, Result.andThen_ok, hrun]
  · rw [hp, bool_den] at d2
    rw [hq, bool_den] at d3
    rw [d2, d3] at hrun ⊢
    cases neg
    · simp only [Bool.false_eq_true, if_false, eqGuard, Sem.run_bind, Sem.run_ite, Sem.run_pure, binOp]
      simp only [Bool.not_true, ite_self, Bool.false_eq_true, Result.andThen_ok, hrun]
    · simp only [if_true, eqGuard, Sem.run_bind, Sem.run_ite, Sem.run_pure, binOp]
      simp only [Bool.not_true, ite_self, Bool.false_eq_true, Result.andThen_ok, hrun]
  · exfalso
    rcases hk with hk | hk
    · simp only [eqTysOf, hk, scalarTy, opt, Option.some.injEq, Prod.mk.injEq] at ht
      obtain ⟨rfl, rfl⟩ := ht
      rw [hp, hq] at e3
      simp [eqVal, eqTys, eqTy] at e3
    · subst hk
      rw [hp, hq] at e3
      simp [eqVal] at e3
  · exfalso
    rcases hk with hk | hk
    · simp only [eqTysOf, hk, scalarTy, opt, Option.some.injEq, Prod.mk.injEq] at ht
      obtain ⟨rfl, rfl⟩ := ht
      rw [hp, hq] at e3
      simp [eqVal, eqTys, eqTy] at e3
    · subst hk
      rw [hp, hq] at e3
      simp [eqVal] at e3

def nilDesc (P : Program) (t : TypeId) : Nat → Prop
  | 0 => ∃ e, P.underlying t = some (.pointer e)
  | 1 => ∃ e, P.underlying t = some (.slice e)
  | 2 => ∃ k e, P.underlying t = some (.map k e)
  | 3 => ∃ p r q, P.underlying t = some (.func p r q)
  | _ => False

/-- a nil, or not: the model's value by its kind -/
def nilVal : Nat → Value → Bool → Prop
  | 0, x, b => ∃ o : Option Addr, x = .pointer o ∧ o.isNone = b
  | 1, x, b => ∃ (o : Option Addr) (l c : Nat), x = .slice o l c ∧ o.isNone = b
  | 2, x, b => ∃ o : Option Nat, x = .map o ∧ o.isNone = b
  | 3, x, b => (x = .nilFunc ∧ b = true) ∨ (∃ f p q, x = .func f p q ∧ b = false)
  | _, _, _ => False
theorem isNil_val {k : Nat} {x : AV} {x' : Value} {p : Bool} (h : isNil k x = some p) (hx : x.den ρ = some x') : nilVal k x' p := by
  unfold isNil at h
  split at h <;> first
    | (cases h; done)
    | skip
  all_goals (injection h with h; subst h)
  · simp only [AV.den, Option.some.injEq] at hx; exact ⟨none, hx.symm, rfl⟩
  · simp only [AV.den, Option.some.injEq] at hx; exact ⟨none, 0, 0, hx.symm, rfl⟩
  · simp only [AV.den, Option.some.injEq] at hx; exact ⟨none, hx.symm, rfl⟩
  · simp only [AV.den, Option.some.injEq] at hx; exact .inl ⟨hx.symm, rfl⟩
  · obtain ⟨r, _, hx⟩ := den_ptr.1 hx; exact ⟨_, hx, rfl⟩
  · obtain ⟨r, _, hx⟩ := den_slice.1 hx; exact ⟨_, _, _, hx, rfl⟩
  · obtain ⟨r, _, hx⟩ := den_map.1 hx; exact ⟨_, hx, rfl⟩
  · obtain ⟨f, p, q, _, _, _, hx⟩ := den_func.1 hx; exact .inr ⟨_, _, _, hx, rfl⟩

theorem eqIn_ptr {t e : TypeId} (d : Nat) (ht : P.underlying t = some (.pointer e)) (o1 o2 : Option Addr) (hpq : (o1.isNone || o2.isNone) = true) (w : World) :
    (Op.equalIn (d + 1) t (.pointer o1) (.pointer o2)).run P w = .ok (o1.isNone && o2.isNone) w := by
  cases o1 with
  | none => simp only [Op.equalIn, Sem.run_bind, run_underlying ht, Result.andThen_ok, Sem.run_pure, Option.isNone_none, Bool.true_and]
  | some a1 =>
    cases o2 with
    | none => simp only [Op.equalIn, Sem.run_bind, run_underlying ht, Result.andThen_ok, Sem.run_pure, Option.isNone_some, Bool.false_and]
    | some a2 => simp at hpq
theorem eqIn_slice {t e : TypeId} (d : Nat) (ht : P.underlying t = some (.slice e)) (o1 o2 : Option Addr) (l1 c1 l2 c2 : Nat) (hpq : (o1.isNone || o2.isNone) = true) (w : World) :
    (Op.equalIn (d + 1) t (.slice o1 l1 c1) (.slice o2 l2 c2)).run P w = .ok (o1.isNone && o2.isNone) w := by
  cases o1 with
  | none => simp only [Op.equalIn, Sem.run_bind, run_underlying ht, Result.andThen_ok, Sem.run_pure, Option.isNone_none, Bool.true_and]
  | some a1 =>
    cases o2 with
    | none => simp only [Op.equalIn, Sem.run_bind, run_underlying ht, Result.andThen_ok, Sem.run_pure, Option.isNone_some, Bool.false_and]
    | some a2 => simp at hpq
theorem eqIn_map {t e f : TypeId} (d : Nat) (ht : P.underlying t = some (.map e f)) (o1 o2 : Option Nat) (hpq : (o1.isNone || o2.isNone) = true) (w : World) :
    (Op.equalIn (d + 1) t (.map o1) (.map o2)).run P w = .ok (o1.isNone && o2.isNone) w := by
  cases o1 with
  | none => simp only [Op.equalIn, Sem.run_bind, run_underlying ht, Result.andThen_ok, Sem.run_pure, Option.isNone_none, Bool.true_and]
  | some a1 =>
    cases o2 with
    | none => simp only [Op.equalIn, Sem.run_bind, run_underlying ht, Result.andThen_ok, Sem.run_pure, Option.isNone_some, Bool.false_and]
    | some a2 => simp at hpq
theorem eqIn_func1 {t : TypeId} {e f : Array TypeId} {q : Bool} (d : Nat) (ht : P.underlying t = some (.func e f q)) (w : World) :
    (Op.equalIn (d + 1) t .nilFunc .nilFunc).run P w = .ok true w := by
  simp only [Op.equalIn, Sem.run_bind, run_underlying ht, Result.andThen_ok, Sem.run_pure]
theorem eqIn_func2 {t : TypeId} {e f : Array TypeId} {q : Bool} (d : Nat) (ht : P.underlying t = some (.func e f q)) (x : Fn) (y z : Array Value) (w : World) :
    (Op.equalIn (d + 1) t .nilFunc (.func x y z)).run P w = .ok false w := by
  simp only [Op.equalIn, Sem.run_bind, run_underlying ht, Result.andThen_ok, Sem.run_pure]
theorem eqIn_func3 {t : TypeId} {e f : Array TypeId} {q : Bool} (d : Nat) (ht : P.underlying t = some (.func e f q)) (x : Fn) (y z : Array Value) (w : World) :
    (Op.equalIn (d + 1) t (.func x y z) .nilFunc).run P w = .ok false w := by
  simp only [Op.equalIn, Sem.run_bind, run_underlying ht, Result.andThen_ok, Sem.run_pure]

theorem nilVal_run {t : TypeId} : ∀ {k : Nat} (_ : nilDesc P t k) {x y : Value} {p q : Bool} (_ : nilVal k x p) (_ : nilVal k y q) (_ : (p || q) = true) (w : World),
    (Op.equal t x y).run P w = .ok (p && q) w ∧ (∀ op ox oy, (eqGuard op t ox oy x y).run P w = .ok () w) ∧
      (binOp .eql t x y = (do pure (.bool (← Op.equal t x y)))) ∧ (binOp .neq t x y = (do pure (.bool (!(← Op.equal t x y)))))
  | 0, ⟨e, ht⟩, _, _, _, _, ⟨o1, rfl, rfl⟩, ⟨o2, rfl, rfl⟩, hpq, w =>
    ⟨eqIn_ptr 9999 ht o1 o2 hpq w, fun op ox oy => by cases op <;> simp [eqGuard], rfl, rfl⟩
  | 1, ⟨e, ht⟩, _, _, _, _, ⟨o1, l1, c1, rfl, rfl⟩, ⟨o2, l2, c2, rfl, rfl⟩, hpq, w =>
    ⟨eqIn_slice 9999 ht o1 o2 l1 c1 l2 c2 hpq w, fun op ox oy => by cases op <;> simp [eqGuard], rfl, rfl⟩
  | 2, ⟨e, f, ht⟩, _, _, _, _, ⟨o1, rfl, rfl⟩, ⟨o2, rfl, rfl⟩, hpq, w =>
    ⟨eqIn_map 9999 ht o1 o2 hpq w, fun op ox oy => by cases op <;> simp [eqGuard], rfl, rfl⟩
  | 3, ⟨e, f, q, ht⟩, _, _, _, _, h1, h2, hpq, w => by
    rcases h1 with ⟨rfl, rfl⟩ | ⟨f1, p1, q1, rfl, rfl⟩ <;> rcases h2 with ⟨rfl, rfl⟩ | ⟨f2, p2, q2, rfl, rfl⟩
    · exact ⟨eqIn_func1 9999 ht w, fun op ox oy => by cases op <;> simp [eqGuard], rfl, rfl⟩
    · exact ⟨eqIn_func2 9999 ht _ _ _ w, fun op ox oy => by cases op <;> simp [eqGuard], rfl, rfl⟩
    · exact ⟨eqIn_func3 9999 ht _ _ _ w, fun op ox oy => by cases op <;> simp [eqGuard], rfl, rfl⟩
    · simp at hpq

theorem step_eqnil (hf : FRel n ρ g a) (hr : HRel ρ h w) (neg : Bool) {t : TypeId} {k : Nat} (ht : nilDesc P t k) {x y : Operand} {x' y' : Opd} (h2 : compOpd x = some x') (h3 : compOpd y = some y')
    (he : evOp (.eqnil neg k x' y') g h = some (v, h')) :
    Step P (do pure (.value (← (do eqGuard (if neg then .neq else .eql) t x y (a.eval x) (a.eval y); binOp (if neg then .neq else .eql) t (a.eval x) (a.eval y) : Sem Value)))) ρ h w v h' := by
  have d2 := opd_den hf h2
  have d3 := opd_den hf h3
  simp only [evOp] at he
  obtain ⟨u, e1, e2⟩ := pure1_some he
  simp only [Prod.mk.injEq] at e2
  obtain ⟨rfl, rfl⟩ := e2
  obtain ⟨p, e3, e4⟩ := opt_some.1 e1
  obtain ⟨q, e5, e6⟩ := opt_some.1 e4
  split at e6
  · rename_i hpq
    injection e6 with e6
    subst e6
    obtain ⟨k1, k2, k3, k4⟩ := nilVal_run ht (isNil_val e3 d2) (isNil_val e5 d3) hpq w
    refine .value (x := .bool (if neg then !(p && q) else (p && q))) hr ?_ rfl
    cases neg
    · simp only [Bool.false_eq_true, if_false, Sem.run_bind, k2, Result.andThen_ok, k3, k1, Sem.run_pure]
    · simp only [if_true, Sem.run_bind, k2, Result.andThen_ok, k4, k1, Sem.run_pure]
  · cases e6
end
end Go.Am

/- Maps: asking and writing. -/
namespace Go.Am
section
variable {P : Program} {n : Nat} {ρ : Env} {g : RT} {a : Act} {h h' : AH} {w : World} {v : AV}

theorem entryDen_cons {k u : AV} {b : Nat} {es : List (AV × AV × Nat)} {l : List MapEntry} :
    entryDen ρ ((k, u, b) :: es) = some l ↔ ∃ k' u' l', k.den ρ = some k' ∧ u.den ρ = some u' ∧ entryDen ρ es = some l' ∧ l = { key := k', val := u', born := b } :: l' := by
  simp only [entryDen]
  constructor
  · intro h
    split at h
    · rename_i h1 h2 h3
      exact ⟨_, _, _, h1, h2, h3, (Option.some.inj h).symm⟩
    · cases h
  · rintro ⟨k', u', l', h1, h2, h3, rfl⟩
    simp [h1, h2, h3]
theorem entryDen_append {es fs : List (AV × AV × Nat)} {l m : List MapEntry} (h1 : entryDen ρ es = some l) (h2 : entryDen ρ fs = some m) : entryDen ρ (es ++ fs) = some (l ++ m) := by
  induction es generalizing l with
  | nil => simp only [entryDen, Option.some.injEq] at h1; subst h1; exact h2
  | cons e es ih =>
    obtain ⟨k, u, b⟩ := e
    obtain ⟨k', u', l', a1, a2, a3, rfl⟩ := entryDen_cons.1 h1
    exact entryDen_cons.2 ⟨k', u', l' ++ m, a1, a2, ih a3, rfl⟩
theorem entryDen_modify {x : AV} {x' : Value} (hx : x.den ρ = some x') : ∀ {es : List (AV × AV × Nat)} {l : List MapEntry} (i : Nat), entryDen ρ es = some l →
    entryDen ρ (es.modify i fun e => (e.1, x, e.2.2)) = some (l.modify i fun e => { e with val := x' })
  | [], l, i, h => by
    simp only [entryDen, Option.some.injEq] at h
    subst h
    simp [entryDen]
  | (k, u, b) :: es, l, i, h => by
    obtain ⟨k', u', l', a1, a2, a3, rfl⟩ := entryDen_cons.1 h
    cases i with
    | zero => simpa using entryDen_cons.2 ⟨k', x', l', a1, hx, a3, rfl⟩
    | succ i => simpa using entryDen_cons.2 ⟨k', u', _, a1, a2, entryDen_modify hx i a3, rfl⟩

/-- what is found, on both sides -/
def FoundRel (ρ : Env) (k' : Value) (l : List MapEntry) (r : Option (Nat × AV)) (r' : Option (Nat × Value)) : Prop :=
  match r, r' with
  | none, none => True
  | some (i, v), some (j, x) => i = j ∧ v.den ρ = some x ∧ ∃ e, l[i]? = some e ∧ Instr.sameBits 10000 e.key k' = true
  | _, _ => False

theorem sameBits_eq {ts : List PTy} {agg : Bool} {x y : AV} {x' y' : Value} (he : eqVal ts agg x y = some true) (hx : x.den ρ = some x') (hy : y.den ρ = some y') (d : Nat) : Instr.sameBits (d + 2) y' x' = true := by
  have sc : ∀ (p : PTy) (x y : AV) (x' y' : Value) (d : Nat), eqTy p x y = some true → x.den ρ = some x' → y.den ρ = some y' → Instr.sameBits d y' x' = true := by
    intro p x y x' y' d he hx hy
    unfold eqTy at he
    split at he
    · rw [bool_den] at hx hy
      subst hx hy
      simp at he
      subst he
      cases d <;> simp [Instr.sameBits]
    · rw [int_den] at hx hy
      subst hx hy
      split at he
      · rename_i hk
        subst hk
        simp at he
        subst he
        cases d <;> simp [Instr.sameBits]
      · cases he
    · rw [str_den] at hx hy
      subst hx hy
      simp at he
      subst he
      cases d <;> (show (_ == _) = true; rw [ba_beq]; exact beq_self_eq_true _)
    · cases he
  have tys : ∀ (ts : List PTy) (xs ys : List AV) (xs' ys' : List Value) (d : Nat), eqTys ts xs ys = some true → denL ρ xs = some xs' → denL ρ ys = some ys' →
      ys'.length = xs'.length ∧ ((ys'.zip xs').all fun (p, q) => Instr.sameBits d p q) = true := by
    intro ts
    induction ts with
    | nil =>
      intro xs ys xs' ys' d he hx hy
      cases xs <;> cases ys <;> simp [eqTys] at he
      rw [denL_nil.1 hx, denL_nil.1 hy]
      simp
    | cons t ts ih =>
      intro xs ys xs' ys' d he hx hy
      cases xs with
      | nil => simp [eqTys] at he
      | cons x xs =>
        cases ys with
        | nil => simp [eqTys] at he
        | cons y ys =>
          simp only [eqTys] at he
          split at he
          · rename_i b1 b2 h1 h2
            injection he with he
            simp only [Bool.and_eq_true] at he
            obtain ⟨rfl, rfl⟩ := he
            obtain ⟨p, q, k1, k2, rfl⟩ := denL_cons.1 hx
            obtain ⟨p', q', l1, l2, rfl⟩ := denL_cons.1 hy
            obtain ⟨i1, i2⟩ := ih xs ys q q' d h2 k2 l2
            exact ⟨by simp [i1], by simp only [List.zip_cons_cons, List.all_cons, sc t x y p p' d h1 k1 l1, Bool.true_and]; exact i2⟩
          · cases he
  unfold eqVal at he
  split at he
  · obtain ⟨xs, k1, rfl⟩ := den_agg.1 hx
    obtain ⟨ys, l1, rfl⟩ := den_agg.1 hy
    obtain ⟨i1, i2⟩ := tys ts _ _ xs ys (d + 1) he k1 l1
    simp only [Instr.sameBits, List.size_toArray, i1, BEq.rfl, Bool.true_and]
    exact i2
  · cases ts with
    | nil => simp [eqTys] at he
    | cons t ts =>
      simp only [eqTys] at he
      split at he
      · rename_i b1 b2 h1 h2
        injection he with he
        simp only [Bool.and_eq_true] at he
        obtain ⟨rfl, rfl⟩ := he
        exact sc t _ _ _ _ _ h1 hx hy
      · cases he
  · cases he

theorem asking_run {t : TypeId} {ts : List PTy} {agg : Bool} (ht : eqTysOf P t = some (ts, agg)) {k : AV} {k' : Value} (hk : k.den ρ = some k') (w : World) :
    ∀ (es : List (AV × AV × Nat)) (l : List MapEntry) (i : Nat) (r : Option (Nat × AV)), entryDen ρ es = some l → lookupE ts agg k es i = some r →
      ∃ r', (Instr.findAsking t k' l i).run P w = .ok r' w ∧ (match r, r' with
        | none, none => True
        | some (j, v), some (j', x) => j = j' ∧ v.den ρ = some x ∧ i ≤ j ∧ ∃ e, l[j - i]? = some e ∧ Instr.sameBits 10000 e.key k' = true
        | _, _ => False)
  | [], l, i, r, hl, hr => by
    simp only [entryDen, Option.some.injEq] at hl
    simp only [lookupE, Option.some.injEq] at hr
    subst hl hr
    exact ⟨none, rfl, trivial⟩
  | (k2, u, b) :: es, l, i, r, hl, hr => by
    obtain ⟨k2', u', l', a1, a2, a3, rfl⟩ := entryDen_cons.1 hl
    simp only [lookupE] at hr
    split at hr
    · rename_i he
      injection hr with hr
      subst hr
      have := eqVal_run ht he hk a1 9998 w
      refine ⟨some (i, u'), ?_, rfl, a2, Nat.le_refl _, _, by simp; rfl, sameBits_eq he hk a1 9998⟩
      simp only [Instr.findAsking, Sem.run_bind]
      rw [show (Op.equal t k' k2').run P w = .ok true w from this]
      rfl
    · rename_i he
      have := eqVal_run ht he hk a1 9998 w
      obtain ⟨r', h1, h2⟩ := asking_run ht hk w es l' (i + 1) r a3 hr
      refine ⟨r', ?_, ?_⟩
      · simp only [Instr.findAsking, Sem.run_bind]
        rw [show (Op.equal t k' k2').run P w = .ok false w from this]
        simpa using h1
      · cases r with
        | none => cases r' <;> exact h2
        | some p =>
          obtain ⟨j, v⟩ := p
          cases r' with
          | none => exact h2
          | some q =>
            obtain ⟨j', x⟩ := q
            obtain ⟨q1, q2, q3, e, q4, q5⟩ := h2
            refine ⟨q1, q2, by omega, e, ?_, q5⟩
            rw [show j - i = (j - (i + 1)) + 1 by omega]
            simpa using q4
    · cases hr

theorem sameNow_val {u : TypeDesc} {ts : List PTy} {agg : Bool} {x y : AV} {x' y' : Value} {b b' : Bool} (he : eqVal ts agg x y = some b) (hx : x.den ρ = some x') (hy : y.den ρ = some y')
    (hs : Instr.sameNow u x' y' = some b') : b' = b := by
  have sc : ∀ (p : PTy) (x y : AV) (x' y' : Value) (b : Bool), eqTy p x y = some b → x.den ρ = some x' → y.den ρ = some y' → Instr.sameNow u x' y' = some b' → b' = b := by
    intro p x y x' y' b he hx hy hs
    unfold eqTy at he
    split at he
    · rw [bool_den] at hx hy
      subst hx hy
      injection he with he
      subst he
      cases u <;> simp only [Instr.sameNow] at hs <;> first | (cases hs; done) | exact (Option.some.inj hs).symm
    · rw [int_den] at hx hy
      subst hx hy
      split at he
      · rename_i hk
        subst hk
        injection he with he
        subst he
        cases u <;> simp only [Instr.sameNow, if_true] at hs <;> first | (cases hs; done) | exact (Option.some.inj hs).symm
      · cases he
    · rw [str_den] at hx hy
      subst hx hy
      injection he with he
      subst he
      cases u <;> simp only [Instr.sameNow] at hs <;> first | (cases hs; done) | (rw [← Option.some.inj hs, ba_beq])
    · cases he
  unfold eqVal at he
  split at he
  · obtain ⟨xs, _, rfl⟩ := den_agg.1 hx
    cases u <;> simp [Instr.sameNow] at hs
  · cases ts with
    | nil => simp [eqTys] at he
    | cons t ts =>
      simp only [eqTys] at he
      split at he
      · rename_i b1 b2 h1 h2
        injection he with he
        have : b2 = true := by cases ts <;> simp [eqTys] at h2; exact h2
        subst this
        rw [Bool.and_true] at he
        subst he
        exact sc t _ _ _ _ _ h1 hx hy hs
      · cases he
  · cases he

theorem now_run {u : TypeDesc} {ts : List PTy} {agg : Bool} {k : AV} {k' : Value} (hk : k.den ρ = some k') :
    ∀ (es : List (AV × AV × Nat)) (l : List MapEntry) (i : Nat) (r : Option (Nat × AV)), entryDen ρ es = some l → lookupE ts agg k es i = some r →
      (∃ r', Instr.findNow u k' l i = some r' ∧ (match r, r' with
        | none, none => True
        | some (j, v), some (j', x) => j = j' ∧ v.den ρ = some x ∧ i ≤ j ∧ ∃ e, l[j - i]? = some e ∧ Instr.sameBits 10000 e.key k' = true
        | _, _ => False)) ∨ Instr.findNow u k' l i = none
  | [], l, i, r, hl, hr => by
    simp only [entryDen, Option.some.injEq] at hl
    simp only [lookupE, Option.some.injEq] at hr
    subst hl hr
    exact .inl ⟨none, rfl, trivial⟩
  | (k2, v2, b) :: es, l, i, r, hl, hr => by
    obtain ⟨k2', u', l', a1, a2, a3, rfl⟩ := entryDen_cons.1 hl
    simp only [lookupE] at hr
    split at hr
    · rename_i he
      injection hr with hr
      subst hr
      simp only [Instr.findNow]
      cases hsn : Instr.sameNow u k' k2' with
      | none => right; rfl
      | some b' =>
        obtain rfl := sameNow_val he hk a1 hsn
        have sb := sameBits_eq he hk a1 9998
        exact .inl ⟨some (i, u'), rfl, rfl, a2, Nat.le_refl _, _, by rw [Nat.sub_self]; rfl, sb⟩
    · rename_i he
      simp only [Instr.findNow]
      cases hsn : Instr.sameNow u k' k2' with
      | none => right; rfl
      | some b' =>
        obtain rfl := sameNow_val he hk a1 hsn
        rcases now_run hk es l' (i + 1) r a3 hr with ⟨r', h1, h2⟩ | h1
        · refine .inl ⟨r', h1, ?_⟩
          cases r with
          | none => cases r' <;> exact h2
          | some p =>
            obtain ⟨j, v⟩ := p
            cases r' with
            | none => exact h2
            | some q =>
              obtain ⟨j', x⟩ := q
              obtain ⟨q1, q2, q3, e, q4, q5⟩ := h2
              refine ⟨q1, q2, by omega, e, ?_, q5⟩
              rw [show j - i = (j - (i + 1)) + 1 by omega]
              simpa using q4
        · exact .inr h1
    · cases hr

theorem findKey_run {t : TypeId} {ts : List PTy} {agg : Bool} (ht : eqTysOf P t = some (ts, agg)) {k : AV} {k' : Value} (hk : k.den ρ = some k') (w : World) {es : List (AV × AV × Nat)} {l : List MapEntry} {r : Option (Nat × AV)}
    (hl : entryDen ρ es = some l) (hr : lookupE ts agg k es 0 = some r) : ∃ r', (Instr.findKey t k' l).run P w = .ok r' w ∧ FoundRel ρ k' l r r' := by
  obtain ⟨u, hu, _⟩ := opt_some.1 (show opt (P.underlying t) _ = some (ts, agg) from ht)
  unfold Instr.findKey
  simp only [Sem.run_bind, run_underlying hu, Result.andThen_ok]
  rcases now_run (u := u) hk es l 0 r hl hr with ⟨r', h1, h2⟩ | h1
  · rw [h1]
    refine ⟨r', rfl, ?_⟩
    cases r with
    | none => cases r' <;> exact h2
    | some p => cases r' with
      | none => exact h2
      | some q => obtain ⟨q1, q2, _, q3⟩ := h2; exact ⟨q1, q2, q3⟩
  · rw [h1]
    obtain ⟨r', h3, h2⟩ := asking_run ht hk w es l 0 r hl hr
    refine ⟨r', h3, ?_⟩
    cases r with
    | none => cases r' <;> exact h2
    | some p => cases r' with
      | none => exact h2
      | some q => obtain ⟨q1, q2, _, q3⟩ := h2; exact ⟨q1, q2, q3⟩
end
end Go.Am

/- Asking a map, and writing into it. -/
namespace Go.Am
section
variable {P : Program} {n : Nat} {ρ : Env} {g : RT} {a : Act} {h h' : AH} {w : World} {v : AV}

theorem checkKey_scalar {t : TypeId} {p : PTy} (ht : scalarTy P t = some p) (em : Bool) (d : Nat) (x : Value) (w : World) : (Instr.checkKey em (d + 1) t x).run P w = .ok () w := by
  simp only [scalarTy, opt_some] at ht
  obtain ⟨u, h1, h2⟩ := ht
  cases u <;> simp only [reduceCtorEq] at h2 <;> simp only [Instr.checkKey, Sem.run_bind, run_underlying h1, Result.andThen_ok, Sem.run_pure]

theorem forIn_range_unit (f : Nat → PUnit → Sem (ForInStep PUnit)) (m : Nat) (w : World) (hf : ∀ i, i < m → (f i ⟨⟩).run P w = .ok (.yield ⟨⟩) w) :
    ((forIn [0:m] PUnit.unit f : Sem PUnit)).run P w = .ok ⟨⟩ w := by
  simp only [Std.Legacy.Range.forIn_eq_forIn_range', Std.Legacy.Range.size, Nat.sub_zero, Nat.add_one_sub_one, Nat.div_one]
  have key : ∀ (l : List Nat), (∀ i ∈ l, i < m) → ((forIn l PUnit.unit f : Sem PUnit)).run P w = .ok ⟨⟩ w := by
    intro l
    induction l with
    | nil => intro _; rfl
    | cons i l ih =>
      intro hl
      simp only [List.forIn_cons, Sem.run_bind, hf i (hl i (List.mem_cons_self ..)), Result.andThen_ok]
      exact ih (fun j hj => hl j (List.mem_cons_of_mem _ hj))
  exact key _ (fun i hi => by simpa using List.mem_range'.1 hi)

theorem forIn_list_unit {α : Type} (f : α → PUnit → Sem (ForInStep PUnit)) (l : List α) (w : World) (hf : ∀ x ∈ l, (f x ⟨⟩).run P w = .ok (.yield ⟨⟩) w) :
    ((forIn l PUnit.unit f : Sem PUnit)).run P w = .ok ⟨⟩ w := by
  induction l with
  | nil => rfl
  | cons i l ih =>
    simp only [List.forIn_cons, Sem.run_bind, hf i (List.mem_cons_self ..), Result.andThen_ok]
    exact ih (fun j hj => hf j (List.mem_cons_of_mem _ hj))

theorem fieldTys_mem : ∀ {i : Nat} {fs : List Field} {ts : List PTy}, fieldTys P i fs = some ts → ts.length = fs.length ∧ ∀ f ∈ fs, (∃ p, scalarTy P f.type = some p) ∧ i ≤ f.offset ∧ f.offset < i + fs.length
  | i, [], ts, h => by simp only [fieldTys, Option.some.injEq] at h; subst h; exact ⟨rfl, fun _ h => by cases h⟩
  | i, f :: fs, ts, h => by
    simp only [fieldTys] at h
    split at h
    · cases h
    · rename_i hn
      obtain ⟨p, hp, h2⟩ := opt_some.1 h
      obtain ⟨l, hl, h3⟩ := opt_some.1 h2
      injection h3 with h3
      subst h3
      have ho : f.offset = i := Classical.byContradiction fun e => hn (.inr e)
      obtain ⟨k1, k2⟩ := fieldTys_mem hl
      refine ⟨by simp [k1], fun f' hf' => ?_⟩
      rcases List.mem_cons.1 hf' with rfl | hf'
      · exact ⟨⟨p, hp⟩, by omega, by simp; omega⟩
      · obtain ⟨q1, q2, q3⟩ := k2 f' hf'
        exact ⟨q1, by omega, by simp; omega⟩

theorem eqTys_length : ∀ {ts : List PTy} {xs ys : List AV} {b : Bool}, eqTys ts xs ys = some b → xs.length = ts.length ∧ ys.length = ts.length
  | [], xs, ys, b, h => by cases xs <;> cases ys <;> simp [eqTys] at h; exact ⟨rfl, rfl⟩
  | t :: ts, xs, ys, b, h => by
    cases xs with
    | nil => simp [eqTys] at h
    | cons x xs =>
      cases ys with
      | nil => simp [eqTys] at h
      | cons y ys =>
        simp only [eqTys] at h
        split at h
        · rename_i h1 h2
          obtain ⟨k1, k2⟩ := eqTys_length h2
          exact ⟨by simp [k1], by simp [k2]⟩
        · cases h

/-- a key of the right make: its own equal -/
def keyOk (ts : List PTy) (agg : Bool) (k : AV) : Prop := (eqVal ts agg k k).isSome = true

theorem checkKey_run {t : TypeId} {ts : List PTy} {agg : Bool} (ht : eqTysOf P t = some (ts, agg)) {k : AV} {k' : Value} (hk : k.den ρ = some k') (ho : keyOk ts agg k) (em : Bool) (d : Nat) (w : World) :
    (Instr.checkKey em (d + 2) t k').run P w = .ok () w := by
  have ht0 := ht
  obtain ⟨u, hu, ht⟩ := opt_some.1 (show opt (P.underlying t) _ = some (ts, agg) from ht)
  have aggs : agg = true → ∃ p xs, k = .agg p ∧ denL ρ p = some xs ∧ k' = .agg xs.toArray ∧ p.length = ts.length := fun e => by
    subst e
    unfold keyOk eqVal at ho
    cases k <;> simp at ho
    rename_i p
    obtain ⟨xs, h1, h2⟩ := den_agg.1 hk
    obtain ⟨b, hb⟩ := Option.isSome_iff_exists.1 ho
    exact ⟨p, xs, rfl, h1, h2, (eqTys_length hb).1⟩
  cases u with
  | array m e =>
    obtain ⟨p, hp, hc⟩ := opt_some.1 ht
    split at hc
    · rename_i hcond
      injection hc with hc
      injection hc with e1 e2
      obtain ⟨q, xs, rfl, k1, rfl, hl⟩ := aggs e2.symm
      subst e1
      obtain ⟨i, hi⟩ : ∃ i, P.info? e = some i := by
        have := hcond.1
        unfold Program.cellsOf at this
        cases hi : P.info? e with
        | none => simp [hi] at this
        | some i => exact ⟨i, rfl⟩
      rw [Instr.checkKey]
      simp only [Sem.run_bind, run_underlying hu, Result.andThen_ok]
      rw [forIn_range_unit _ m w]
      · rfl
      · intro j hj
        have hlen := denL_length k1
        simp only [List.length_replicate] at hl
        have hx : xs[j]? = some (xs[j]'(by omega)) := List.getElem?_eq_getElem (by omega)
        simp only [Sem.run_bind, run_sizeOf w hi, hcond.1, Nat.mul_one, Result.andThen_ok, part_scalar hp hx, checkKey_scalar hp, Sem.run_pure]
    · cases hc
  | struct fs =>
    obtain ⟨l, hl, hc⟩ := opt_some.1 ht
    split at hc
    · rename_i hcond
      injection hc with hc
      injection hc with e1 e2
      obtain ⟨q, xs, rfl, k1, rfl, hlen⟩ := aggs e2.symm
      subst e1
      obtain ⟨f1, f2⟩ := fieldTys_mem hl
      rw [Instr.checkKey]
      simp only [Sem.run_bind, run_underlying hu, Result.andThen_ok]
      rw [← Array.forIn_toList]
      rw [forIn_list_unit _ fs.toList w]
      · rfl
      · intro f hf
        obtain ⟨⟨p, hp⟩, q1, q2⟩ := f2 f hf
        have hl2 := denL_length k1
        have hx : xs[f.offset]? = some (xs[f.offset]'(by omega)) := List.getElem?_eq_getElem (by omega)
        by_cases hn : f.name ≠ "_"
        · simp only [hn, ne_eq, not_false_eq_true, if_true, Sem.run_bind, part_scalar hp hx, Result.andThen_ok, checkKey_scalar hp, Sem.run_pure]
        · simp only [hn, if_false, Sem.run_pure]
    · cases hc
  | _ =>
    obtain ⟨p, hp, hc⟩ := opt_some.1 ht
    exact checkKey_scalar hp em (d + 1) k' w

theorem entryDen_modify2 {k x : AV} {k' x' : Value} (hk : k.den ρ = some k') (hx : x.den ρ = some x') : ∀ {es : List (AV × AV × Nat)} {l : List MapEntry} (i : Nat), entryDen ρ es = some l →
    entryDen ρ (es.modify i fun e => (k, x, e.2.2)) = some (l.modify i fun e => { e with key := k', val := x' })
  | [], l, i, h => by
    simp only [entryDen, Option.some.injEq] at h
    subst h
    simp [entryDen]
  | (k1, u, b) :: es, l, i, h => by
    obtain ⟨k2, u', l', a1, a2, a3, rfl⟩ := entryDen_cons.1 h
    cases i with
    | zero => simpa using entryDen_cons.2 ⟨k', x', l', hk, hx, a3, rfl⟩
    | succ i => simpa using entryDen_cons.2 ⟨k2, u', _, a1, a2, entryDen_modify2 hk hx i a3, rfl⟩

theorem findKey_lookup {kt : TypeId} {ts : List PTy} {agg : Bool} (ht : eqTysOf P kt = some (ts, agg)) {k : AV} {k' : Value} (hk : k.den ρ = some k') (ho : keyOk ts agg k) {es : List (AV × AV × Nat)} {l : List MapEntry} {r : Option (Nat × AV)}
    (hl : entryDen ρ es = some l) (hr : lookupE ts agg k es 0 = some r) (em : Bool) (w : World) :
    ∃ r', (Instr.checkKey em 10000 kt k').run P w = .ok () w ∧ (Instr.findKey kt k' l).run P w = .ok r' w ∧ FoundRel ρ k' l r r' := by
  obtain ⟨r', h1, h2⟩ := findKey_run ht hk w hl hr
  exact ⟨r', checkKey_run ht hk ho em 9998 w, h1, h2⟩

theorem step_lookup (hf : FRel n ρ g a) (hr : HRel ρ h w) {t kt e : TypeId} {ts : List PTy} {agg ok : Bool} {z : AV} (ht : P.underlying t = some (.map kt e)) (hk : eqTysOf P kt = some (ts, agg)) (hz : zeroOfT P e = some z)
    {m k : Operand} {m' k' : Opd} (h2 : compOpd m = some m') (h3 : compOpd k = some k') (he : evOp (.lookup ts agg z ok m' k') g h = some (v, h')) :
    Step P (do pure (.value (← Instr.lookup t (a.eval m) (a.eval k) ok))) ρ h w v h' := by
  have d2 := opd_den hf h2
  have d3 := opd_den hf h3
  simp only [evOp] at he
  obtain ⟨u, e1, e2⟩ := pure1_some he
  simp only [Prod.mk.injEq] at e2
  obtain ⟨rfl, rfl⟩ := e2
  obtain ⟨es, e3, e4⟩ := opt_some.1 e1
  split at e4
  · rename_i hko
    obtain ⟨r, e5, e6⟩ := opt_some.1 e4
    obtain ⟨z', hz1, hz2⟩ := zeroOfT_run hz ρ w
    have fin : ∀ (l : List MapEntry), entryDen ρ es = some l → ∃ x, (do
        Instr.checkKey l.toArray.isEmpty 10000 kt (a.eval k)
        let (v, ok') ← match ← Instr.findKey kt (a.eval k) l.toArray.toList with
          | some (_, v) => pure (v, true)
          | none => pure (← zeroValue e, false)
        pure (if ok then .tuple #[v, .bool ok'] else v) : Sem Value).run P w = .ok x w ∧ v.den ρ = some x := by
      intro l hl
      obtain ⟨r', k1, k2, k3⟩ := findKey_lookup hk d3 hko hl e5 l.toArray.isEmpty w
      simp only [Sem.run_bind, k1, k2, Result.andThen_ok]
      cases r with
      | none =>
        cases r' with
        | none =>
          simp only [Sem.run_bind, hz1, Result.andThen_ok, Sem.run_pure]
          injection e6 with e6
          subst e6
          refine ⟨_, rfl, ?_⟩
          cases ok
          · exact hz2
          · exact den_tuple.2 ⟨_, denL_cons.2 ⟨_, _, hz2, denL_cons.2 ⟨_, _, rfl, rfl, rfl⟩, rfl⟩, rfl⟩
        | some q => exact k3.elim
      | some p =>
        obtain ⟨i, x⟩ := p
        cases r' with
        | none => exact k3.elim
        | some q =>
          obtain ⟨j, y⟩ := q
          obtain ⟨_, q2, _⟩ := k3
          simp only [Sem.run_bind, Sem.run_pure, Result.andThen_ok]
          injection e6 with e6
          subst e6
          refine ⟨_, rfl, ?_⟩
          cases ok
          · exact q2
          · exact den_tuple.2 ⟨_, denL_cons.2 ⟨_, _, q2, denL_cons.2 ⟨_, _, rfl, rfl, rfl⟩, rfl⟩, rfl⟩
    split at e3
    · rename_i hm
      injection e3 with e3
      subst e3
      rw [hm] at d2
      simp only [AV.den, Option.some.injEq] at d2
      obtain ⟨x, f1, f2⟩ := fin [] rfl
      refine .value hr ?_ f2
      rw [← d2]
      rw [← f1]
      simp only [Instr.lookup, Sem.run_bind, run_underlying ht, Result.andThen_ok, Sem.run_pure]
      congr 1
    · rename_i id hm
      split at e3
      · rename_i es' clock ho
        injection e3 with e3
        subst e3
        rw [hm, den_map] at d2
        obtain ⟨r0, hρ, d2⟩ := d2
        obtain ⟨r', g1, l, g3, g4⟩ := hr.obj id _ ho
        rw [hρ] at g1
        injection g1 with g1
        subst g1
        obtain ⟨x, f1, f2⟩ := fin l g4
        refine .value hr ?_ f2
        rw [d2, ← f1]
        have hg : (getObj r0.block).run P w = .ok (.map l.toArray clock) w := by simp [getObj, Sem.run, g3]
        simp only [Instr.lookup, Sem.run_bind, run_underlying ht, Result.andThen_ok, hg, Sem.run_pure]
        congr 1
      · cases e3
    · cases e3
  · cases e4

theorem mapUpdate_run {t kt e : TypeId} (ht : P.underlying t = some (.map kt e)) {r clock : Nat} {l : List MapEntry} {k x : Value} {r' : Option (Nat × Value)} (g3 : w.heap[r]? = some (.map l.toArray clock))
    (k1 : (Instr.checkKey false 10000 kt k).run P w = .ok () w) (k2 : (Instr.findKey kt k l).run P w = .ok r' w) (hs : ∀ i y, r' = some (i, y) → (Instr.keyThatStays (((l.toArray[i]?).map (·.key)).getD k) k).run P w = .ok k w) :
    (Instr.mapUpdate t (.map (some r)) k x).run P w = .ok () { w with heap := w.heap.setIfInBounds r (match r' with
      | some (i, _) => .map (l.toArray.modify i fun e => { e with key := k, val := x }) clock
      | none => .map (l.toArray.push { key := k, val := x, born := clock }) (clock + 1)) } := by
  have hg : (getObj r).run P w = .ok (.map l.toArray clock) w := by simp [getObj, Sem.run, g3]
  have hset : ∀ (o : Obj), (setObj r o).run P w = .ok () { w with heap := w.heap.setIfInBounds r o } := fun o => by simp [setObj, Sem.run, g3]
  unfold Instr.mapUpdate
  rw [Sem.run_bind, run_underlying ht, Result.andThen_ok]
  dsimp only
  rw [Sem.run_bind, hg, Result.andThen_ok]
  dsimp only
  rw [Sem.run_bind, k1, Result.andThen_ok, Sem.run_bind, k2, Result.andThen_ok]
  cases r' with
  | none => exact hset _
  | some p =>
    obtain ⟨i, y⟩ := p
    dsimp only
    rw [Sem.run_bind, hs i y rfl, Result.andThen_ok]
    exact hset _

theorem step_mapUpdate (hf : FRel n ρ g a) (hr : HRel ρ h w) {t kt e : TypeId} {ts : List PTy} {agg : Bool} (ht : P.underlying t = some (.map kt e)) (hk : eqTysOf P kt = some (ts, agg))
    {m k x : Operand} {m' k' x' : Opd} (h2 : compOpd m = some m') (h3 : compOpd k = some k') (h4 : compOpd x = some x') (he : evOp (.mapUpdate ts agg m' k' x') g h = some (v, h')) :
    Step P (do Instr.mapUpdate t (a.eval m) (a.eval k) (a.eval x); pure .skip) ρ h w v h' := by
  have d2 := opd_den hf h2
  have d3 := opd_den hf h3
  have d4 := opd_den hf h4
  simp only [evOp] at he
  split at he
  · rename_i id hm
    rw [hm, den_map] at d2
    obtain ⟨r0, hρ, d2⟩ := d2
    split at he
    · rename_i es clock ho
      split at he
      · rename_i hko
        obtain ⟨r, e5, e6⟩ := opt_some.1 he
        obtain ⟨r1, g1, l, g3, g4⟩ := hr.obj id _ ho
        rw [hρ] at g1
        injection g1 with g1
        subst g1
        obtain ⟨r', k1, k2, k3⟩ := findKey_lookup hk d3 hko g4 e5 false w
        have hlt := (Array.getElem?_eq_some_iff.1 g3).1
        cases r with
        | none =>
          cases r' with
          | some q => exact k3.elim
          | none =>
            obtain ⟨h1, e7, e8⟩ := opt_some.1 e6
            simp only [Option.some.injEq, Prod.mk.injEq] at e8
            obtain ⟨rfl, rfl⟩ := e8
            obtain ⟨hfl, rfl⟩ := put_some e7
            refine ⟨Go.undef, _, ρ, .inr ⟨?_, rfl⟩, rfl, Trans.put (w' := { w with heap := w.heap.setIfInBounds r0.block (.map (l.toArray.push { key := a.eval k, val := a.eval x, born := clock }) (clock + 1)) }) hr ho hρ ⟨hfl, rfl⟩ (by simp) (fun b hb => setBlock_other w _ hb) ⟨rfl, rfl, rfl⟩ ?_⟩
            · rw [d2]
              rw [Sem.run_bind, mapUpdate_run ht g3 k1 k2 (fun _ _ e => by cases e), Result.andThen_ok]
              rfl
            · rintro o' ⟨rfl⟩
              refine ⟨⟨l ++ [{ key := a.eval k, val := a.eval x, born := clock }], ?_, entryDen_append g4 (entryDen_cons.2 ⟨_, _, _, d3, d4, rfl, rfl⟩)⟩, rfl⟩
              rw [setBlock_same w _ hlt]
              simp
        | some p =>
          obtain ⟨i, y⟩ := p
          cases r' with
          | none => exact k3.elim
          | some q =>
            obtain ⟨j, y'⟩ := q
            obtain ⟨rfl, _, e0, q4, q5⟩ := k3
            obtain ⟨h1, e7, e8⟩ := opt_some.1 e6
            simp only [Option.some.injEq, Prod.mk.injEq] at e8
            obtain ⟨rfl, rfl⟩ := e8
            obtain ⟨hfl, rfl⟩ := put_some e7
            have hstay : (Instr.keyThatStays (((l.toArray[i]?).map (·.key)).getD (a.eval k)) (a.eval k)).run P w = .ok (a.eval k) w := by
              have : l.toArray[i]? = some e0 := by simpa using q4
              rw [this]
              simp only [Option.map_some, Option.getD_some]
              unfold Instr.keyThatStays
              rw [if_pos q5]
              rfl
            refine ⟨Go.undef, _, ρ, .inr ⟨?_, rfl⟩, rfl, Trans.put (w' := { w with heap := w.heap.setIfInBounds r0.block (.map (l.toArray.modify i fun e => { e with key := a.eval k, val := a.eval x }) clock) }) hr ho hρ ⟨hfl, rfl⟩ (by simp) (fun b hb => setBlock_other w _ hb) ⟨rfl, rfl, rfl⟩ ?_⟩
            · rw [d2]
              rw [Sem.run_bind, mapUpdate_run ht g3 k1 k2 (fun i' y'' e => by injection e with e; injection e with e1 e2; subst e1; exact hstay), Result.andThen_ok]
              rfl
            · rintro o' ⟨rfl⟩
              refine ⟨⟨l.modify i fun e => { e with key := a.eval k, val := a.eval x }, ?_, entryDen_modify2 d3 d4 i g4⟩, rfl⟩
              rw [setBlock_same w _ hlt]
              simp
      · cases he
    · cases he
  · cases he
end
end Go.Am
