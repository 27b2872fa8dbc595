/- Writing and making. -/
import Derived.Test.YtiakcbnmagpabaaGreatDoorA1
import Derived.Lib.ConvBytes
import Derived.Laws.Externs
namespace Go.Am
section
variable {P : Program} {n : Nat} {ρ : Env} {g : RT} {a : Act} {h h' : AH} {w : World} {v : AV}

theorem step_store (hf : FRel n ρ g a) (hr : HRel ρ h w) {t : TypeId} {m : Nat} (hm : sizeOfT P t = some m) {x y : Operand} {x' y' : Opd} (h2 : compOpd x = some x') (h3 : compOpd y = some y')
    (he : evOp (.store m x' y') g h = some (v, h')) : Step P (do Instr.storeAt t (a.eval x) (a.eval y); pure .skip) ρ h w v h' := by
  have d2 := opd_den hf h2
  have d3 := opd_den hf h3
  simp only [evOp] at he
  split at he
  · rename_i id off hx
    rw [hx, den_ptr] at d2
    obtain ⟨r, hρ, d2⟩ := d2
    split at he
    · rename_i hlen
      obtain ⟨h1, e1, e2⟩ := opt_some.1 he
      simp only [Option.some.injEq, Prod.mk.injEq] at e2
      obtain ⟨rfl, rfl⟩ := e2
      have dc := den_cells d3
      obtain ⟨w', k1, k2⟩ := write_run P hr e1 hρ dc
      refine ⟨Go.undef, w', ρ, .inr ⟨?_, rfl⟩, rfl, k2⟩
      have hsz : (a.eval y).cells.size = m := by have := denL_length dc; simp at this; omega
      rw [d2]
      simp only [Instr.storeAt, Instr.sureAddr, storeVar, Sem.run_bind, Sem.run_pure, Result.andThen_ok, sizeOfT_run hm, hsz, ne_eq, not_true_eq_false, if_false, k1]
    · cases he
  · cases he

/-- a new row in a new block -/
theorem new_row (hr : HRel ρ h w) (hfr : ρ h.next = none) {e : Nat} {cs : List AV} {k : RK} {xs : List Value} (hx : denL ρ cs = some xs) (tail : List Value) (ty : TypeId) (cap : Nat) (c : Array Value) (hc : c.toList = xs ++ tail)
    (hk : k = .open_ → 0 < e ∧ cap * e = xs.length + tail.length) :
    Trans ρ h w (ρ.set h.next ⟨w.heap.size, 0, cap, default⟩) (h.new (.row e cs k)).2 { w with heap := w.heap.push (.cells c ty (0, 0)) } := by
  refine Trans.alloc hr hfr rfl (by simp) (fun b hb => by simp [Array.getElem?_push, Nat.ne_of_lt hb]) ⟨rfl, rfl, rfl⟩ ?_
  have hsz : c.size = xs.length + tail.length := by rw [← Array.length_toList, hc]; simp
  refine ⟨c, ty, (0, 0), xs, tail, by simp, fun _ => .inl rfl, denL_mono (Env.set_le hfr) _ _ hx, by simpa using hc, ?_, hk⟩
  have := denL_length hx
  show 0 + cs.length ≤ c.size
  omega

theorem new_run {elem : TypeId} {cells : Array Value} : (newRow elem cells).run P w = .ok ⟨w.heap.size, 0, none⟩ { w with heap := w.heap.push (.cells cells elem (0, 0)) } := by
  simp [newRow]

theorem step_box (hf : FRel n ρ g a) (hr : HRel ρ h w) {t : TypeId} {m : Nat} {x : Operand} {x' : Opd} (h2 : compOpd x = some x') (hfr : ∀ id, h.next ≤ id → id < h'.next → ρ id = none)
    (he : evOp (.box m x') g h = some (v, h')) : Step P (do pure (.value (← Instr.box t (a.eval x)))) ρ h w v h' := by
  have d2 := opd_den hf h2
  simp only [evOp] at he
  split at he
  · simp only [Option.some.injEq, Prod.mk.injEq] at he
    obtain ⟨rfl, rfl⟩ := he
    have hn : ρ h.next = none := hfr _ (Nat.le_refl _) (Nat.lt_succ_self _)
    refine .value' (x := .pointer (some ⟨w.heap.size, 0, none⟩)) ?_ (den_ptr.2 ⟨_, Env.set_same _ _ _, rfl⟩) (new_row hr hn (den_cells d2) [] t 0 (a.eval x).cells (by simp) (fun e => by cases e))
    simp only [Instr.box, newVar, Sem.run_bind, new_run, Result.andThen_ok, Sem.run_pure]
  · cases he

theorem step_alloc (hr : HRel ρ h w) {t : TypeId} {z : AV} (hz : zeroOfT P t = some z) (hfr : ∀ id, h.next ≤ id → id < h'.next → ρ id = none)
    (he : evOp (.alloc z.cells) g h = some (v, h')) : Step P (do pure (.value (← Instr.alloc t true (.tuple #[])))) ρ h w v h' := by
  simp only [evOp, Option.some.injEq, Prod.mk.injEq] at he
  obtain ⟨rfl, rfl⟩ := he
  have hn : ρ h.next = none := hfr _ (Nat.le_refl _) (Nat.lt_succ_self _)
  obtain ⟨x, hx, hd⟩ := zeroOfT_run hz ρ w
  refine .value' (x := .pointer (some ⟨w.heap.size, 0, none⟩)) ?_ (den_ptr.2 ⟨_, Env.set_same _ _ _, rfl⟩) (new_row hr hn (den_cells hd) [] t 0 x.cells (by simp) (fun e => by cases e))
  simp only [Instr.alloc, newVar, Sem.run_bind, hx, new_run, Result.andThen_ok, Sem.run_pure]

theorem range_mul_succ (m k : Nat) : List.range ((k + 1) * m) = List.range (k * m) ++ (List.range m).map (k * m + ·) := by
  rw [Nat.succ_mul, List.range_add]

theorem rep_den {zc : List AV} {zx : List Value} (hz : denL ρ zc = some zx) (k : Nat) : denL ρ (rep k zc) = some ((List.range (k * zx.length)).map fun i => zx.toArray[i % zx.toArray.size]!) := by
  induction k with
  | zero => simp [rep, denL]
  | succ k ih =>
    have e : rep (k + 1) zc = rep k zc ++ zc := by
      unfold rep
      rw [List.replicate_succ']
      simp
    rw [e, range_mul_succ, List.map_append, denL_append]
    refine ⟨_, zx, ih, hz, ?_⟩
    congr 1
    rw [List.map_map]
    apply List.ext_getElem?
    intro i
    by_cases hi : i < zx.length
    · rw [List.getElem?_map, List.getElem?_range hi]
      simp [hi, Nat.mod_eq_of_lt hi]
    · rw [List.getElem?_eq_none (Nat.le_of_not_lt hi), List.getElem?_eq_none (by simpa using hi)]

theorem step_buildSlice (hf : FRel n ρ g a) (hr : HRel ρ h w) {t e : TypeId} {len s : Nat} {z : AV} (ht : P.underlying t = some (.slice e)) (hs : sizeOfT P e = some s) (hz : zeroOfT P e = some z) (hl : ¬ (len * s > 2 ^ 24)) (hzs : z.cells.length = s)
    {parts : Array (Nat × Operand)} {qs : List (Nat × Nat × Opd)} (hc : compParts (fun i => some (i * s, s)) parts.toList = some qs) (hfr : ∀ id, h.next ≤ id → id < h'.next → ρ id = none)
    (he : evOp (.buildSlice s len z.cells qs) g h = some (v, h')) : Step P (do pure (.value (← Instr.buildSlice t len (parts.map fun (i, x) => (i, a.eval x))))) ρ h w v h' := by
  simp only [evOp] at he
  obtain ⟨cs, e3, e4⟩ := opt_some.1 he
  split at e4
  · simp only [Option.some.injEq, Prod.mk.injEq] at e4
    obtain ⟨rfl, rfl⟩ := e4
    have hn : ρ h.next = none := hfr _ (Nat.le_refl _) (Nat.lt_succ_self _)
    obtain ⟨x0, hx0, hd0⟩ := zeroOfT_run hz ρ w
    obtain ⟨ps, k1, k2, k3, k4⟩ := compParts_spec hf hc
    rw [k1] at e3
    have hzc := den_cells hd0
    have hzl : x0.cells.size = s := by have := denL_length hzc; simp at this; omega
    have fin : ∀ zz : Array Value, ((Array.range (len * s)).map (zz[· % zz.size]!)).toList = ((List.range (len * x0.cells.toList.length)).map fun i => x0.cells.toList.toArray[i % x0.cells.toList.toArray.size]!) →
        (∀ zs, Instr.fill (fun i => some (i * s, s)) ((Array.range (len * s)).map (zz[· % zz.size]!)) (parts.map fun (i, x) => (i, a.eval x)).toList = some zs →
          (Instr.buildSlice t len (parts.map fun (i, x) => (i, a.eval x))).run P w = ((do pure (.slice (some (← newRow e zs)) len len) : Sem Value)).run P w) →
        Step P (do pure (.value (← Instr.buildSlice t len (parts.map fun (i, x) => (i, a.eval x))))) ρ h w (AV.slice (h.new (AO.row s cs RK.closed)).fst 0 len (Cap.fixed len)) (h.new (AO.row s cs RK.closed)).snd := by
      intro zz hzz2 hrun
      obtain ⟨zs, f1, f2⟩ := parts_run (fun i => some (i * s, s)) ps _ _ (rep len z.cells) ((Array.range (len * s)).map (zz[· % zz.size]!)) cs rfl k2 k3 k4 (by rw [hzz2]; exact rep_den hzc len) e3
      have hfill : Instr.fill (fun i => some (i * s, s)) ((Array.range (len * s)).map (zz[· % zz.size]!)) (parts.map fun (i, x) => (i, a.eval x)).toList = some zs := by
        rw [Array.toList_map]
        exact f1
      refine .value' (x := .slice (some ⟨w.heap.size, 0, none⟩) len len) ?_ (den_slice.2 ⟨_, Env.set_same _ _ _, rfl⟩) (new_row hr hn f2 [] e 0 zs (by simp) (fun e => by cases e))
      simp only [Sem.run_bind, hrun zs hfill, new_run, Result.andThen_ok, Sem.run_pure]
    by_cases h0 : len * s = 0
    · refine fin #[] ?_ ?_
      · rw [h0]
        simp [hzl, h0]
      · intro zs hz
        rw [h0] at hz
        simp only [Instr.buildSlice, Sem.run_bind, run_underlying ht, sizeOfT_run hs, Result.andThen_ok, if_false, h0, if_true, Sem.run_pure, Nat.not_lt_zero, GT.gt, pure_bind, hz]
    · refine fin x0.cells ?_ ?_
      · simp [hzl]
      · intro zs hz
        simp only [Instr.buildSlice, Sem.run_bind, run_underlying ht, sizeOfT_run hs, Result.andThen_ok, hl, if_false, h0, hx0, Sem.run_pure, hz]
  · cases e4

theorem step_makeMap (hr : HRel ρ h w) {t kt e : TypeId} {r : Option Operand} (ht : r.isSome = true → P.underlying t = some (.map kt e)) (hrr : r = none ∨ ∃ k i, r = some (.const (.int k i))) (hfr : ∀ id, h.next ≤ id → id < h'.next → ρ id = none)
    (he : evOp .makeMap g h = some (v, h')) : Step P (do pure (.value (← Instr.makeMap t (r.map a.eval)))) ρ h w v h' := by
  simp only [evOp, Option.some.injEq, Prod.mk.injEq] at he
  obtain ⟨rfl, rfl⟩ := he
  have hn : ρ h.next = none := hfr _ (Nat.le_refl _) (Nat.lt_succ_self _)
  refine .value' (x := .map (some w.heap.size)) (w' := { w with heap := w.heap.push (.map #[] 0) }) ?_ (ρ' := ρ.set h.next ⟨w.heap.size, 0, 0, default⟩) (den_map.2 ⟨⟨w.heap.size, 0, 0, default⟩, Env.set_same _ _ _, rfl⟩) ?_
  · rcases hrr with rfl | ⟨k, i, rfl⟩
    · simp [Instr.makeMap]
    · simp [Instr.makeMap, run_underlying (ht rfl), asInt, asIntOf, Act.eval]
  · exact Trans.alloc hr hn rfl (by simp) (fun b hb => by simp [Array.getElem?_push, Nat.ne_of_lt hb]) ⟨rfl, rfl, rfl⟩ ⟨[], by simp, rfl⟩

theorem denL_bytes : ∀ s : List UInt8, denL ρ (s.map byteAV) = some (s.map fun b => Value.int .u8 b.toNat)
  | [] => rfl
  | b :: s => by
    rw [List.map_cons, denL_cons]
    exact ⟨_, _, rfl, denL_bytes s, rfl⟩

theorem cut_ge (need old t : Nat) (e : TypeId) : need ≤ (Question.appendCap need old e).cut t := Nat.le_add_right _ _

theorem step_bytesOf (hf : FRel n ρ g a) (hr : HRel ρ h w) {s d e : TypeId} (hs : P.underlying s = some .string) (hd : P.underlying d = some (.slice e)) (hb : P.underlying e = some (.int .u8)) {x : Operand} {x' : Opd} (h2 : compOpd x = some x')
    (hfr : ∀ id, h.next ≤ id → id < h'.next → ρ id = none)
    (he : evOp (.bytesOf x') g h = some (v, h')) : Step P (do pure (.value (← convert s d (a.eval x)))) ρ h w v h' := by
  have d2 := opd_den hf h2
  simp only [evOp] at he
  split at he
  · rename_i bs hx
    rw [hx, str_den] at d2
    split at he
    · simp only [Option.some.injEq, Prod.mk.injEq] at he
      obtain ⟨rfl, rfl⟩ := he
      have hn : ρ h.next = none := hfr _ (Nat.le_refl _) (Nat.lt_succ_self _)
      have hcg : bs.length ≤ grownCap w bs.length 0 e := cut_ge _ _ _ _
      refine .value' (by rw [d2]; exact Lib.run_convert_string_bytes w s d e ⟨bs.toArray⟩ hs hd hb) (ρ' := ρ.set h.next ⟨w.heap.size, 0, grownCap w bs.length 0 e, default⟩) (den_slice.2 ⟨_, Env.set_same _ _ _, rfl⟩) ?_
      refine Trans.alloc hr hn rfl (Lib.bytesWorld_size ..) (fun b hb => Lib.bytesWorld_at_old _ _ _ _ hb) ⟨rfl, rfl, rfl⟩ ?_
      refine ⟨Lib.bytesCells w e ⟨bs.toArray⟩, e, (_, _), bs.map fun b => .int .u8 b.toNat, List.replicate (grownCap w bs.length 0 e - bs.length) (.int .u8 0), Lib.bytesWorld_at_new .., fun _ => .inr (Nat.le_refl _), denL_bytes bs, ?_, ?_, fun _ => ⟨by omega, ?_⟩⟩
      · simp [Lib.bytesCells]; rfl
      · simp [Lib.bytesCells]
      · simp; omega
    · cases he
  · cases he
end
end Go.Am

/- Slices made, copied and marked. -/
namespace Go.Am
section
variable {P : Program} {n : Nat} {ρ : Env} {g : RT} {a : Act} {h h' : AH} {w : World} {v : AV}

theorem clear_more {size : Nat} {fz : Nat × Nat} (h : clear size fz) : clear size (if fz.1 == fz.2 then (size, size + 1) else (min fz.1 size, max fz.2 (size + 1))) := by
  split
  · exact .inr (Nat.le_refl _)
  · rename_i hne
    rcases h with h | h
    · exact absurd (by simpa using h) hne
    · exact .inr (by simp; omega)

theorem step_sameSl (hf : FRel n ρ g a) (hr : HRel ρ h w) {s e : TypeId} (hs : P.underlying s = some (.slice e)) (hb : P.underlying e = some (.int .u8)) {x : Operand} {x' : Opd} (h2 : compOpd x = some x')
    (he : evOp (.sameSl x') g h = some (v, h')) : Step P (do pure (.value (← convert s s (a.eval x)))) ρ h w v h' := by
  have d2 := opd_den hf h2
  simp only [evOp] at he
  split at he
  · rename_i id off len cap hx
    rw [hx] at d2
    have d2' := d2
    rw [den_slice] at d2
    obtain ⟨r, hρ, d2⟩ := d2
    split at he
    · rename_i em cs k ho
      split at he
      · cases he
      · rename_i hk
        obtain ⟨h1, e1, e2⟩ := opt_some.1 he
        simp only [Option.some.injEq, Prod.mk.injEq] at e2
        obtain ⟨rfl, rfl⟩ := e2
        obtain ⟨hfl, rfl⟩ := put_some e1
        obtain ⟨c, ty, fz, vs, tail, q1, q2, q3, q4, q5, q6⟩ := hr.row ho hρ
        have hro : (AO.row em cs k).isRo = false := by cases k <;> first | rfl | exact absurd rfl hk
        obtain ⟨hlt, he'⟩ := Array.getElem?_eq_some_iff.1 q1
        have hsh : w.shape? r.block = some (ty, c.size) := by unfold World.shape?; rw [q1]
        have hsame : (w.freeze ⟨r.block, c.size, none⟩ 1).heap[r.block]? = some (.cells c ty (if fz.1 == fz.2 then (c.size, c.size + 1) else (min fz.1 c.size, max fz.2 (c.size + 1)))) := by
          simp only [World.freeze, Nat.one_ne_zero, if_false, Array.getElem?_modify, if_true, q1, Option.map_some]
        refine .value' (w' := w.freeze ⟨r.block, c.size, none⟩ 1) (ρ' := ρ) ?_ d2' ?_
        · rw [d2]
          simp [convert, run_underlying hs, run_underlying hb, markStringish, hsh]
        · refine Trans.put hr ho hρ ⟨hfl, hro⟩ (by simp [World.freeze]) (fun b hb => ?_) (by unfold World.freeze; exact ⟨rfl, rfl, rfl⟩) ?_
          · simp only [World.freeze, Nat.one_ne_zero, if_false, Array.getElem?_modify]
            rw [if_neg (Ne.symm hb)]
          · rintro o' ⟨rfl⟩
            exact ⟨⟨c, ty, _, vs, tail, hsame, fun hk => clear_more (q2 hk), q3, q4, q5, q6⟩, hro⟩
    · cases he
  · cases he

theorem wrap_small {i : Int} (h : 0 ≤ i) (h2 : i ≤ 2 ^ 40) : IntKind.i64.wrap i = i := by
  have : (2 : Int) ^ 40 = 1099511627776 := by decide
  rw [IntKind.wrap_i64]
  omega

theorem step_makeSlice (hf : FRel n ρ g a) (hr : HRel ρ h w) {t e : TypeId} {s b : Nat} {z : AV} (ht : P.underlying t = some (.slice e)) (hs : sizeOfT P e = some s) (hb : bytesOfT P e = some b) (hz : zeroOfT P e = some z)
    (hzs : z.cells.length = s) {x y : Operand} {x' y' : Opd} (h2 : compOpd x = some x') (h3 : compOpd y = some y') (hfr : ∀ id, h.next ≤ id → id < h'.next → ρ id = none)
    (he : evOp (.makeSlice s b z.cells x' y') g h = some (v, h')) : Step P (do pure (.value (← Instr.makeSlice t (a.eval x) (a.eval y)))) ρ h w v h' := by
  have d2 := opd_den hf h2
  have d3 := opd_den hf h3
  simp only [evOp] at he
  split at he
  · rename_i k1 l k2 c hx hy
    split at he
    · rename_i hc
      obtain ⟨c1, c2, c3⟩ := hc
      simp only [Option.some.injEq, Prod.mk.injEq] at he
      obtain ⟨rfl, rfl⟩ := he
      rw [hx] at d2
      rw [hy] at d3
      simp only [AV.den, Option.some.injEq] at d2 d3
      have hn : ρ h.next = none := hfr _ (Nat.le_refl _) (Nat.lt_succ_self _)
      obtain ⟨x0, hx0, hd0⟩ := zeroOfT_run hz ρ w
      obtain ⟨i, hi, hib⟩ := bytesOfT_run hb
      have hzc := den_cells hd0
      have hzl : x0.cells.size = s := by have := denL_length hzc; simp at this; omega
      obtain ⟨c, rfl⟩ : ∃ m : Nat, c = m := ⟨c.toNat, by omega⟩
      obtain ⟨l, rfl⟩ : ∃ m : Nat, l = m := ⟨l.toNat, by omega⟩
      simp only [Int.toNat_natCast] at c3 ⊢
      have p40 : (2 : Nat) ^ 40 = 1099511627776 := by decide
      have p40' : (2 : Int) ^ 40 = 1099511627776 := by decide
      have c4 : c ≤ 1099511627776 := by
        have : c * 1 ≤ c * (b + 1) := Nat.mul_le_mul_left _ (by omega)
        omega
      have c5 : b * c ≤ 1099511627776 := by
        have : c * b ≤ c * (b + 1) := Nat.mul_le_mul_left _ (by omega)
        rw [Nat.mul_comm] at this
        omega
      have c6 : b * l ≤ 1099511627776 := Nat.le_trans (Nat.mul_le_mul_left b (by omega)) c5
      have w1 : IntKind.i64.wrap (c : Int) = c := wrap_small (by omega) (by omega)
      have w2 : IntKind.i64.wrap (l : Int) = l := wrap_small (by omega) (by omega)
      have hcond : ¬ (281474976710656 < (b : Int) * (c : Int)) := by
        have : ((b * c : Nat) : Int) = (b : Int) * c := by simp
        omega
      have hden := rep_den (ρ := ρ) hzc c
      have fin : ∀ zz : Array Value, ((Array.range (c * s)).map (zz[· % zz.size]!)).toList = ((List.range (c * x0.cells.toList.length)).map fun i => x0.cells.toList.toArray[i % x0.cells.toList.toArray.size]!) →
          (Instr.makeSlice t (a.eval x) (a.eval y)).run P w = .ok (.slice (some ⟨w.heap.size, 0, none⟩) l c) { w with heap := w.heap.push (.cells ((Array.range (c * s)).map (zz[· % zz.size]!)) e (0, 0)) } →
          Step P (do pure (.value (← Instr.makeSlice t (a.eval x) (a.eval y)))) ρ h w (AV.slice (h.new (AO.row s (rep c z.cells) RK.closed)).fst 0 l (Cap.fixed c)) (h.new (AO.row s (rep c z.cells) RK.closed)).snd := by
        intro zz hzz hrun
        exact .value' hrun (den_slice.2 ⟨_, Env.set_same _ _ _, rfl⟩) (new_row hr hn hden [] e 0 _ (by rw [hzz]; simp) (fun e => by cases e))
      by_cases h0 : c * s = 0
      · refine fin #[] (by simp [hzl, h0]) ?_
        rw [← d2, ← d3]
        simp [Instr.makeSlice, run_underlying ht, asInt, asIntOf, typeInfo, hi, hib, w1, w2, hcond, sizeOfT_run hs, h0, new_run]
        omega
      · refine fin x0.cells (by simp [hzl]) ?_
        rw [← d2, ← d3]
        simp [Instr.makeSlice, run_underlying ht, asInt, asIntOf, typeInfo, hi, hib, w1, w2, hcond, sizeOfT_run hs, h0, hx0, new_run]
        omega
    · cases he
  · cases he

/-! ### what is appended and copied -/
theorem lenOf_run {x : AV} {y : Value} (hx : x.den ρ = some y) {m : Nat} (hl : lenV x = some m) (w : World) : (Builtin.lenOf y).run P w = .ok m w := by
  unfold lenV at hl
  split at hl
  · obtain ⟨r, _, rfl⟩ := den_slice.1 hx
    injection hl with hl
    subst hl
    rfl
  · simp only [AV.den, Option.some.injEq] at hx
    injection hl with hl
    subst hl hx
    rfl
  · rw [str_den] at hx
    injection hl with hl
    subst hl hx
    rfl
  · cases hl

theorem firstCells_run (hr : HRel ρ h w) {x : AV} {y : Value} (hx : x.den ρ = some y) {s m : Nat} {cs : List AV} (hc : firstCells s m h x = some cs) :
    ∃ xs, denL ρ cs = some xs ∧ (Builtin.firstCells s m y).run P w = .ok xs.toArray w := by
  unfold firstCells at hc
  split at hc
  · obtain ⟨r, hρ, rfl⟩ := den_slice.1 hx
    obtain ⟨xs, h1, _, h3⟩ := cellsAt_run P hr hc hρ
    exact ⟨xs, h1, h3⟩
  · injection hc with hc
    simp only [AV.den, Option.some.injEq] at hx
    subst hc hx
    exact ⟨[], rfl, rfl⟩
  · rename_i bs
    split at hc
    · injection hc with hc
      rw [str_den] at hx
      subst hc hx
      refine ⟨_, denL_bytes _, ?_⟩
      simp only [Builtin.firstCells, Sem.run_pure]
      congr 1
      apply Array.ext'
      simp [ByteArray.extract, ByteArray.copySlice]
    · cases hc
  · cases hc

theorem firstCells_length {x : AV} {s m : Nat} {cs : List AV} (hl : lenV x = some m) (hc : firstCells s m h x = some cs) : cs.length = m * s := by
  unfold firstCells at hc
  split at hc
  · unfold AH.cellsAt at hc
    split at hc
    · rename_i h0
      injection hc with hc
      subst hc
      exact h0.symm
    · split at hc
      · split at hc
        · rename_i hle
          injection hc with hc
          subst hc
          simp
          omega
        · cases hc
      · cases hc
  · simp only [lenV, Option.some.injEq] at hl
    injection hc with hc
    subst hc hl
    simp
  · split at hc
    · rename_i hs
      injection hc with hc
      simp only [lenV, Option.some.injEq] at hl
      subst hc hl hs
      simp
    · cases hc
  · cases hc

theorem firstCells_len {x : AV} {s m : Nat} {cs : List AV} (hc : firstCells s m h x = some cs) (hle : ∀ bs, x = .str bs → m ≤ bs.length) (hn : x = .nilslice → m = 0) : cs.length = m * s := by
  unfold firstCells at hc
  split at hc
  · unfold AH.cellsAt at hc
    split at hc
    · rename_i h0
      injection hc with hc
      subst hc
      exact h0.symm
    · split at hc
      · split at hc
        · injection hc with hc
          subst hc
          simp
          omega
        · cases hc
      · cases hc
  · injection hc with hc
    subst hc
    simp [hn rfl]
  · split at hc
    · rename_i hs
      injection hc with hc
      have := hle _ rfl
      subst hc hs
      simp
      omega
    · cases hc
  · cases hc

theorem step_copy (hf : FRel n ρ g a) (hr : HRel ρ h w) {t u ty e : TypeId} {rest : List TypeId} {s : Nat} (ht : P.underlying t = some (.slice e)) (hs : sizeOfT P e = some s) {x y : Operand} {x' y' : Opd} (h2 : compOpd x = some x') (h3 : compOpd y = some y')
    (he : evOp (.copy s x' y') g h = some (v, h')) : Step P (do pure (.value (← Builtin.copy_ (t :: rest).toArray ty #[a.eval x, a.eval y]))) ρ h w v h' := by
  have d2 := opd_den hf h2
  have d3 := opd_den hf h3
  simp only [evOp] at he
  split at he
  · rename_i hx
    rw [hx] at d2
    simp only [AV.den, Option.some.injEq] at d2
    obtain ⟨m, e1, e2⟩ := opt_some.1 he
    simp only [Option.some.injEq, Prod.mk.injEq] at e2
    obtain ⟨rfl, rfl⟩ := e2
    have hl := lenOf_run (P := P) d3 e1 w
    have hfc : (Builtin.firstCells s 0 (a.eval y)).run P w = .ok #[] w := by
      have : firstCells s 0 h (y'.ev g) = some [] ∨ ∃ bs, y'.ev g = .str bs := by
        unfold lenV at e1
        split at e1
        · rename_i hy
          rw [hy]
          simp [firstCells, AH.cellsAt]
        · rename_i hy
          rw [hy]
          simp [firstCells]
        · rename_i hy
          exact .inr ⟨_, hy⟩
        · cases e1
      rcases this with hc | ⟨bs, hb⟩
      · obtain ⟨xs, k1, k2⟩ := firstCells_run (P := P) hr d3 hc
        rw [denL_nil.1 k1] at k2
        exact k2
      · rw [hb, str_den] at d3
        rw [d3]
        simp [Builtin.firstCells]
    refine .value hr ?_ (show AV.den ρ (.int .i64 0) = some (goInt 0) from rfl)
    rw [← d2]
    simp [Builtin.copy_, run_underlying ht, hl, sizeOfT_run hs, hfc]
  · rename_i id off dlen cap hx
    rw [hx, den_slice] at d2
    obtain ⟨r, hρ, d2⟩ := d2
    obtain ⟨m, e1, e2⟩ := opt_some.1 he
    obtain ⟨cs, e3, e4⟩ := opt_some.1 e2
    obtain ⟨h1, e5, e6⟩ := opt_some.1 e4
    simp only [Option.some.injEq, Prod.mk.injEq] at e6
    obtain ⟨rfl, rfl⟩ := e6
    have hl := lenOf_run (P := P) d3 e1 w
    obtain ⟨xs, k1, k2⟩ := firstCells_run (P := P) hr d3 e3
    obtain ⟨w', k3, k4⟩ := write_run P hr e5 hρ k1
    have k2' : (Builtin.firstCells s (Nat.min m dlen) (a.eval y)).run P w = .ok xs.toArray w := k2
    refine .value' (x := goInt (Nat.min m dlen)) ?_ (show AV.den _ (.int .i64 _) = some (goInt _) from rfl) k4
    rw [d2]
    simp [Builtin.copy_, run_underlying ht, hl, sizeOfT_run hs, k2', k3]
  · cases he
end
end Go.Am

/- Appending. -/
namespace Go.Am
section
variable {P : Program} {n : Nat} {ρ : Env} {g : RT} {a : Act} {h h' : AH} {w : World} {v : AV}

theorem capOf_le (hr : HRel ρ h w) {id b s : Nat} {r : Row} (hρ : ρ id = some r) : capOf h id b s ≤ r.cap - b := by
  unfold capOf
  split
  · rename_i e' cs ho
    split
    · rename_i hee
      subst hee
      obtain ⟨c, ty, fz, vs, tail, q1, _, q3, q4, q5, q6⟩ := hr.row ho hρ
      obtain ⟨p1, p2⟩ := q6 rfl
      have hl := denL_length q3
      have : cs.length / e' ≤ r.cap := Nat.div_le_of_le_mul (by rw [Nat.mul_comm, p2]; omega)
      omega
    · exact Nat.zero_le _
  · exact Nat.zero_le _

theorem zeroCells_size (z : Array Value) (k : Nat) : (Builtin.zeroCells z k).size = k * z.size := by simp [Builtin.zeroCells]

theorem grow_trans (hr : HRel ρ h w) (hfr : ρ h.next = none) {cs : List AV} {vs : List Value} (hx : denL ρ cs = some vs) {need s cap : Nat} (hl : cs.length = need * s) (hs : 0 < s) (hcap : need ≤ cap)
    {zx : Array Value} (hzx : zx.size = s) (e : TypeId) :
    Trans ρ h w (ρ.set h.next ⟨w.heap.size, 0, cap, default⟩) (h.new (.row s cs .open_)).2 (w.drew.alloc (.cells (vs.toArray ++ Builtin.zeroCells zx (cap - need)) e)) := by
  refine (Trans.drew hr (w.drawn + 1)).trans (new_row (Trans.drew hr (w.drawn + 1)).rel hfr hx (Builtin.zeroCells zx (cap - need)).toList e cap _ (by simp) fun _ => ⟨hs, ?_⟩)
  have := denL_length hx
  have e1 : (Builtin.zeroCells zx (cap - need)).toList.length = (cap - need) * s := by simp [zeroCells_size, hzx]
  have e2 : vs.length = need * s := this.trans hl
  have e3 : cap * s = need * s + (cap - need) * s := by rw [← Nat.add_mul]; congr 1; omega
  rw [e1]
  exact e3.trans (congrArg (· + _) e2.symm)

theorem append_core (hr : HRel ρ h w) {e : TypeId} {s b : Nat} (hs : 0 < s) {zx : Array Value} (hzx : zx.size = s) {act : Sem Value} {sv : AV} {sx : Value} (hsv : sv.den ρ = some sx) {m : Nat} {new : List AV} {xs : List Value}
    (hx : denL ρ new = some xs) (hlen : new.length = m * s)
    (hin : ∀ base sLen sCap w', sx = .slice base sLen sCap → sLen + m ≤ sCap → (∀ a, base = some a → (storeCells (a.add (sLen * s)) xs).run P w = .ok () w') → (base = none → w' = w) → act.run P w = .ok (.slice base (sLen + m) sCap) w')
    (hgr : ∀ base sLen sCap olds, sx = .slice base sLen sCap → sCap < sLen + m → capBound (sLen + m) b = true → (Builtin.firstCells s sLen sx).run P w.drew = .ok olds w.drew →
      act.run P w = .ok (.slice (some ⟨w.heap.size, 0, none⟩) (sLen + m) (grownCap w (sLen + m) sCap e)) (w.drew.alloc (.cells (olds ++ xs.toArray ++ Builtin.zeroCells zx (grownCap w (sLen + m) sCap e - (sLen + m))) e)))
    (hfr : ∀ id, h.next ≤ id → id < h'.next → ρ id = none)
    (he : appendV s b sv m new h = some (v, h')) : Step P (do pure (.value (← act))) ρ h w v h' := by
  have hrd : HRel ρ h w.drew := (Trans.drew hr (w.drawn + 1)).rel
  have hxl := denL_length hx
  unfold appendV at he
  split at he
  · simp only [AV.den, Option.some.injEq] at hsv
    subst hsv
    split at he
    · rename_i hm
      simp only [Option.some.injEq, Prod.mk.injEq] at he
      obtain ⟨rfl, rfl⟩ := he
      subst hm
      exact .value hr (hin none 0 0 w rfl (Nat.le_refl _) (fun a ha => by cases ha) fun _ => rfl) rfl
    · rename_i hm
      split at he
      · cases he
      · rename_i hcb
        simp only [Bool.or_eq_true, Bool.not_eq_true', not_or, Bool.not_eq_false] at hcb
        simp only [Option.some.injEq, Prod.mk.injEq] at he
        obtain ⟨rfl, rfl⟩ := he
        have hn : ρ h.next = none := hfr _ (Nat.le_refl _) (Nat.lt_succ_self _)
        have hrun := hgr none 0 0 #[] rfl (by omega) (by rw [Nat.zero_add]; exact hcb.1) (by simp [Builtin.firstCells])
        simp only [Nat.zero_add, Array.empty_append] at hrun
        exact .value' hrun (den_slice.2 ⟨_, Env.set_same _ _ _, rfl⟩) (grow_trans hr hn hx hlen hs (cut_ge _ _ _ _) hzx e)
  · rename_i id off len c
    obtain ⟨r, hρ, rfl⟩ := den_slice.1 hsv
    split at he
    · rename_i hle
      obtain ⟨h1, e1, e2⟩ := opt_some.1 he
      simp only [Option.some.injEq, Prod.mk.injEq] at e2
      obtain ⟨rfl, rfl⟩ := e2
      obtain ⟨w', k1, k2⟩ := write_run P hr e1 hρ hx
      refine .value' (hin _ _ _ w' rfl hle (fun a ha => ?_) (fun ha => by cases ha)) (den_slice.2 ⟨r, k2.le _ _ hρ, rfl⟩) k2
      injection ha with ha
      subst ha
      rw [addr_add, Nat.add_assoc]
      exact k1
    · rename_i hle
      split at he
      · cases he
      · rename_i hcb
        simp only [Bool.or_eq_true, Bool.not_eq_true', not_or, Bool.not_eq_false] at hcb
        obtain ⟨old, e1, e2⟩ := opt_some.1 he
        simp only [Option.some.injEq, Prod.mk.injEq] at e2
        obtain ⟨rfl, rfl⟩ := e2
        have hn : ρ h.next = none := hfr _ (Nat.le_refl _) (Nat.lt_succ_self _)
        obtain ⟨os, k1, k2, k3⟩ := cellsAt_run P hrd e1 hρ
        have hol := denL_length k1
        have hrun := hgr _ _ _ os.toArray rfl (Nat.lt_of_not_le hle) hcb.1 k3
        rw [show os.toArray ++ xs.toArray = (os ++ xs).toArray by simp] at hrun
        exact .value' hrun (den_slice.2 ⟨_, Env.set_same _ _ _, rfl⟩) (grow_trans hr hn (denL_append.2 ⟨_, _, k1, hx, rfl⟩) (by rw [List.length_append, hlen, ← hol, k2, Nat.add_mul]) hs (cut_ge _ _ _ _) hzx e)
  · rename_i id off len lo
    obtain ⟨r, hρ, rfl⟩ := den_slice.1 hsv
    split at he
    · rename_i hm
      subst hm
      split at he
      · rename_i hle
        simp only [Option.some.injEq, Prod.mk.injEq] at he
        obtain ⟨rfl, rfl⟩ := he
        have hnil : xs = [] := List.eq_nil_of_length_eq_zero (by omega)
        exact .value hr (hin _ _ _ w rfl (Nat.le_trans hle (capOf_le hr hρ)) (fun a _ => by rw [hnil]; rfl) (fun ha => by cases ha)) hsv
      · cases he
    · rename_i hm
      split at he
      · rename_i e' cs k ho
        split at he
        · cases he
        · rename_i hcond
          simp only [not_or, Decidable.not_not, Bool.not_eq_true', Bool.not_eq_false] at hcond
          obtain ⟨rfl, rfl, rfl, hcb, hone⟩ := hcond
          obtain ⟨c, ty, fz, vs, tail, q1, q2, q3, q4, q5, q6⟩ := hr.row ho hρ
          obtain ⟨p1, p2⟩ := q6 rfl
          have hvl := denL_length q3
          split at he
          · rename_i hle
            obtain ⟨h1, e1, e2⟩ := opt_some.1 he
            simp only [Option.some.injEq, Prod.mk.injEq] at e2
            obtain ⟨rfl, rfl⟩ := e2
            obtain ⟨w', k1, k2⟩ := write_run P hr e1 hρ hx
            have hcap : lo + len + m ≤ r.cap := Nat.le_of_mul_le_mul_right (c := e') (by rw [p2]; omega) p1
            refine .value' (hin _ _ _ w' rfl (by simp only [Cap.den]; omega) (fun a ha => ?_) (fun ha => by cases ha)) (den_slice.2 ⟨r, k2.le _ _ hρ, rfl⟩) k2
            injection ha with ha
            subst ha
            rw [addr_add, Nat.add_assoc]
            exact k1
          · rename_i hle
            obtain ⟨old, e1, e2⟩ := opt_some.1 he
            obtain ⟨h1, e3, e4⟩ := opt_some.1 e2
            simp only [Option.some.injEq, Prod.mk.injEq] at e4
            obtain ⟨rfl, rfl⟩ := e4
            obtain ⟨hfl, rfl⟩ := put_some e3
            have hn : ρ h.next = none := hfr _ (Nat.le_refl _) (Nat.lt_succ_self _)
            have hwr : h.wr id (.row e' cs .open_) := ⟨hfl, rfl⟩
            by_cases hroom : len + m ≤ r.cap - lo
            · -- in place
              have hcap : (lo + len + m) * e' ≤ r.cap * e' := Nat.mul_le_mul_right _ (by omega)
              have hsz : c.size = r.off + (vs.length + tail.length) := by
                have := congrArg List.length q4
                simp at this
                omega
              have hmul : (lo + len + m) * e' = lo * e' + len * e' + m * e' := by rw [Nat.add_mul, Nat.add_mul]
              have hold : old = (cs.drop (lo * e')).take (len * e') ∧ (len * e' = 0 ∨ lo * e' + len * e' ≤ cs.length) := by
                unfold AH.cellsAt at e1
                split at e1
                · rename_i h0
                  injection e1 with e1
                  subst e1
                  exact ⟨by rw [h0]; simp, .inl h0⟩
                · simp only [ho] at e1
                  split at e1
                  · rename_i hle2
                    injection e1 with e1
                    exact ⟨e1.symm, .inr hle2⟩
                  · cases e1
              obtain ⟨hold, hold2⟩ := hold
              have hos : denL ρ old = some ((vs.drop (lo * e')).take (len * e')) := by
                rw [hold]
                exact denL_take _ (denL_drop _ q3)
              obtain ⟨c', g1, g2, g3⟩ := run_storeCells_clear P r.block (r.off + lo * e' + len * e') ty fz xs 0 c w q1 (q2 (by simp)) (by rw [hxl, hlen, hsz]; omega) (denL_one hx hone)
              have hres := hin _ _ _ _ rfl hroom (fun a ha => by injection ha with ha; subst ha; rw [addr_add]; exact g1) (fun ha => by cases ha)
              refine .value' hres (ρ' := ρ.set h.next ⟨r.block, r.off + lo * e', r.cap - lo, default⟩) (den_slice.2 ⟨_, Env.set_same _ _ _, rfl⟩) ?_
              refine Trans.swap hr ho hρ hwr hn rfl (by simp) (fun b hb => setBlock_other w _ hb) ⟨rfl, rfl, rfl⟩ ?_
              have hle' : ρ.le (ρ.set h.next ⟨r.block, r.off + lo * e', r.cap - lo, default⟩) := Env.set_le hn
              have hdrop : c.toList.drop (r.off + lo * e') = (vs ++ tail).drop (lo * e') := by rw [← q4, List.drop_drop]
              have htake : ((vs ++ tail).drop (lo * e')).take (len * e') = (vs.drop (lo * e')).take (len * e') := by
                rcases hold2 with h0 | h0
                · rw [h0]; simp
                · rw [List.drop_append_of_le_length (by omega), List.take_append_of_le_length (by simp; omega)]
              have hosl : ((vs.drop (lo * e')).take (len * e')).length = len * e' := by
                rw [List.length_take, List.length_drop]
                omega
              refine ⟨c', ty, fz, (vs.drop (lo * e')).take (len * e') ++ xs, ((vs ++ tail).drop (lo * e')).drop (len * e' + xs.length), setBlock_same w _ (Array.getElem?_eq_some_iff.1 q1).1, fun _ => by rw [g2]; exact q2 (by simp), ?_, ?_, ?_, fun _ => ⟨p1, ?_⟩⟩
              · exact denL_mono hle' _ _ (denL_append.2 ⟨_, _, hos, hx, rfl⟩)
              · show c'.toList.drop (r.off + lo * e') = _
                rw [g3, Nat.add_zero, drop_splice _ _ _ _ _ (by simp; omega), hdrop, htake]
              · show r.off + lo * e' + _ ≤ _
                have := denL_length hos
                rw [List.length_append, g2, ← this, hosl, hlen, hsz]
                omega
              · show (r.cap - lo) * e' = _
                rw [List.length_append, hosl, List.length_drop, List.length_drop, List.length_append, hxl, hlen, Nat.sub_mul, p2]
                omega
            · obtain ⟨os, k1, k2, k3⟩ := cellsAt_run P hrd e1 hρ
              have hol := denL_length k1
              have hrun := hgr _ _ _ os.toArray rfl (Nat.lt_of_not_le hroom) hcb k3
              rw [show os.toArray ++ xs.toArray = (os ++ xs).toArray by simp] at hrun
              have t1 : Trans ρ h w ρ { h with tr := h.tr.set id none } w := Trans.put hr ho hρ hwr rfl (fun _ _ => rfl) (.refl _) (fun o' ho' => by cases ho')
              exact .value' hrun (den_slice.2 ⟨_, Env.set_same _ _ _, rfl⟩) (t1.trans (grow_trans t1.rel hn (denL_append.2 ⟨_, _, k1, hx, rfl⟩) (by rw [List.length_append, hlen, ← hol, k2, Nat.add_mul]) hs (cut_ge _ _ _ _) hzx e))
      · cases he
  · cases he
end
end Go.Am

/- The appends of the code. -/
namespace Go.Am
section
variable {P : Program} {n : Nat} {ρ : Env} {g : RT} {a : Act} {h h' : AH} {w : World} {v : AV}

theorem capBound_le {need b : Nat} (h : capBound need b = true) : (2 * need + 1024) * b ≤ 2 ^ 47 := by
  unfold capBound at h
  exact of_decide_eq_true h

theorem step_append (hf : FRel n ρ g a) (hr : HRel ρ h w) {t u ty e : TypeId} {rest : List TypeId} {ud : TypeDesc} {s b : Nat} {z : AV} (ht : P.underlying t = some (.slice e)) (hu : P.underlying u = some ud) (hud : ud = .string ∨ ∃ e', ud = .slice e')
    (hs : sizeOfT P e = some s) (hb : bytesOfT P e = some b) (hz : zeroOfT P e = some z) (hb0 : b ≠ 0) (hs0 : s ≠ 0) (hzs : z.cells.length = s)
    {x y : Operand} {x' y' : Opd} (h2 : compOpd x = some x') (h3 : compOpd y = some y') (hfr : ∀ id, h.next ≤ id → id < h'.next → ρ id = none)
    (he : evOp (.append s b x' y') g h = some (v, h')) : Step P (do pure (.value (← Builtin.append_ (t :: u :: rest).toArray ty #[a.eval x, a.eval y]))) ρ h w v h' := by
  have d2 := opd_den hf h2
  have d3 := opd_den hf h3
  simp only [evOp] at he
  obtain ⟨m, e1, e2⟩ := opt_some.1 he
  obtain ⟨new, e3, e4⟩ := opt_some.1 e2
  have hrd : HRel ρ h w.drew := (Trans.drew hr (w.drawn + 1)).rel
  obtain ⟨xs, k1, k2⟩ := firstCells_run (P := P) hr d3 e3
  obtain ⟨xs', k3, k4⟩ := firstCells_run (P := P) hrd d3 e3
  rw [k1] at k3
  injection k3 with k3
  subst k3
  have hl := lenOf_run (P := P) d3 e1 w
  obtain ⟨i, hi, hib⟩ := bytesOfT_run hb
  obtain ⟨x0, hx0, hd0⟩ := zeroOfT_run hz ρ w.drew
  have hzl : x0.cells.size = s := by have := denL_length (den_cells hd0); simp at this; omega
  refine append_core (e := e) hr (Nat.pos_of_ne_zero hs0) (zx := x0.cells) hzl d2 k1 (firstCells_length e1 e3) ?_ ?_ hfr e4
  · intro base sLen sCap w' hsx hle hst hno
    rw [hsx]
    cases base with
    | none =>
      rw [hno rfl]
      rcases hud with rfl | ⟨e', rfl⟩ <;> simp [Builtin.append_, run_underlying ht, run_underlying hu, hl, sizeOfT_run hs, hle, k2]
    | some ad =>
      have := hst ad rfl
      rcases hud with rfl | ⟨e', rfl⟩ <;> simp [Builtin.append_, run_underlying ht, run_underlying hu, hl, sizeOfT_run hs, hle, k2, this]
  · intro base sLen sCap olds hsx hlt hcb hold
    have hcb := capBound_le hcb
    have hnot : ¬ (sLen + m ≤ sCap) := by omega
    have hfit : ¬ (281474976710656 < Builtin.nextslicecap (sLen + m) sCap * i.bytes) := by
      have h1 := nextslicecap_le hlt
      have h2 : Builtin.nextslicecap (sLen + m) sCap * b ≤ (2 * (sLen + m) + 1024) * b := Nat.mul_le_mul_right _ (by omega)
      rw [hib]
      omega
    have hib0 : i.bytes ≠ 0 := by rw [hib]; exact hb0
    rw [hsx] at hold ⊢
    rcases hud with rfl | ⟨e', rfl⟩ <;> simp [Builtin.append_, run_underlying ht, run_underlying hu, hl, sizeOfT_run hs, hnot, typeInfo, hi, hib0, hfit, Question.forced, hold, k4, hx0, newRow, grownCap]

theorem step_appendZ (hf : FRel n ρ g a) (hr : HRel ρ h w) {t u ty e : TypeId} {rest : List TypeId} {k : IntKind} {s b : Nat} {z : AV} (ht : P.underlying t = some (.slice e)) (hu : P.underlying u = some (.int k))
    (hs : sizeOfT P e = some s) (hb : bytesOfT P e = some b) (hz : zeroOfT P e = some z) (hb0 : b ≠ 0) (hs0 : s ≠ 0) (hzs : z.cells.length = s) (hbb : b ≤ 262144)
    {x y : Operand} {x' y' : Opd} (h2 : compOpd x = some x') (h3 : compOpd y = some y') (hfr : ∀ id, h.next ≤ id → id < h'.next → ρ id = none)
    (he : evOp (.appendZ s b z.cells x' y') g h = some (v, h')) : Step P (do pure (.value (← Builtin.append_ (t :: u :: rest).toArray ty #[a.eval x, a.eval y]))) ρ h w v h' := by
  have d2 := opd_den hf h2
  have d3 := opd_den hf h3
  simp only [evOp] at he
  split at he
  · rename_i k' m hy
    rw [hy] at d3
    simp only [AV.den, Option.some.injEq] at d3
    split at he
    · rename_i hm
      obtain ⟨hm1, hm2⟩ := hm
      obtain ⟨m, rfl⟩ : ∃ j : Nat, m = j := ⟨m.toNat, by omega⟩
      have p30 : (2 : Int) ^ 30 = 1073741824 := by decide
      simp only [Int.toNat_natCast] at he
      have hrd : HRel ρ h w.drew := (Trans.drew hr (w.drawn + 1)).rel
      obtain ⟨i, hi, hib⟩ := bytesOfT_run hb
      obtain ⟨x1, hx1, hd1⟩ := zeroOfT_run hz ρ w
      obtain ⟨x0, hx0, hd0⟩ := zeroOfT_run hz ρ w.drew
      rw [hd0] at hd1
      injection hd1 with hd1
      subst hd1
      have hzc := den_cells hd0
      have hzl : x0.cells.size = s := by have := denL_length hzc; simp at this; omega
      have hrep := rep_den hzc m
      have hw : IntKind.i64.wrap (m : Int) = m := wrap_small (by omega) (by omega)
      have hnb : ¬ (281474976710656 < (m : Int) * (i.bytes : Int)) := by
        have h1 : m * i.bytes ≤ 1073741824 * 262144 := Nat.mul_le_mul (by omega) (by omega)
        have h2 : ((m * i.bytes : Nat) : Int) = (m : Int) * i.bytes := by simp
        omega
      have hneg : ¬ ((m : Int) < 0) := by omega
      have hib0 : i.bytes ≠ 0 := by rw [hib]; exact hb0
      have hcells : Builtin.zeroCells x0.cells m = ((List.range (m * x0.cells.toList.length)).map fun i => x0.cells.toList.toArray[i % x0.cells.toList.toArray.size]!).toArray := by
        apply Array.ext'
        simp [Builtin.zeroCells]
      have hlen : (rep m z.cells).length = m * s := by simp [rep, hzs]
      refine append_core (e := e) hr (Nat.pos_of_ne_zero hs0) (zx := x0.cells) hzl d2 hrep hlen ?_ ?_ hfr he
      · intro base sLen sCap w' hsx hle hst hno
        rw [hsx, ← d3]
        by_cases h0 : m * s = 0
        · have hx : ((List.range (m * x0.cells.toList.length)).map fun i => x0.cells.toList.toArray[i % x0.cells.toList.toArray.size]!) = [] := by simp [hzl, h0]
          rw [hx] at hst
          cases base with
          | none =>
            rw [hno rfl]
            simp [Builtin.append_, run_underlying ht, run_underlying hu, asInt, asIntOf, hw, hneg, typeInfo, hi, hnb, sizeOfT_run hs, hle, h0]
          | some ad =>
            have := hst ad rfl
            simp [Builtin.append_, run_underlying ht, run_underlying hu, asInt, asIntOf, hw, hneg, typeInfo, hi, hnb, sizeOfT_run hs, hle, h0, this]
        · cases base with
          | none =>
            rw [hno rfl]
            simp [Builtin.append_, run_underlying ht, run_underlying hu, asInt, asIntOf, hw, hneg, typeInfo, hi, hnb, sizeOfT_run hs, hle, h0, hx1]
          | some ad =>
            have := hst ad rfl
            rw [show ((List.range (m * x0.cells.toList.length)).map fun i => x0.cells.toList.toArray[i % x0.cells.toList.toArray.size]!) = (Builtin.zeroCells x0.cells m).toList by rw [hcells]] at this
            simp [Builtin.append_, run_underlying ht, run_underlying hu, asInt, asIntOf, hw, hneg, typeInfo, hi, hnb, sizeOfT_run hs, hle, h0, hx1, this]
      · intro base sLen sCap olds hsx hlt hcb hold
        have hcb := capBound_le hcb
        have hnot : ¬ (sLen + m ≤ sCap) := by omega
        have hfit : ¬ (281474976710656 < Builtin.nextslicecap (sLen + m) sCap * i.bytes) := by
          have h1 := nextslicecap_le hlt
          have h2 : Builtin.nextslicecap (sLen + m) sCap * b ≤ (2 * (sLen + m) + 1024) * b := Nat.mul_le_mul_right _ (by omega)
          rw [hib]
          omega
        have h63 : ¬ ((9223372036854775807 : Int) < (sLen : Int) + (m : Int)) := by
          have h2 : (2 * (sLen + m) + 1024) * 1 ≤ (2 * (sLen + m) + 1024) * b := Nat.mul_le_mul_left _ (Nat.pos_of_ne_zero hb0)
          omega
        rw [hsx] at hold ⊢
        rw [← d3]
        by_cases h0 : m * s = 0
        · have hx : ((List.range (m * x0.cells.toList.length)).map fun i => x0.cells.toList.toArray[i % x0.cells.toList.toArray.size]!) = [] := by simp [hzl, h0]
          rw [hx]
          simp [Builtin.append_, run_underlying ht, run_underlying hu, asInt, asIntOf, hw, hneg, hnb, sizeOfT_run hs, hnot, typeInfo, hi, hib0, hfit, h63, Question.forced, hold, h0, hx0, newRow, grownCap]
        · rw [← hcells]
          simp [Builtin.append_, run_underlying ht, run_underlying hu, asInt, asIntOf, hw, hneg, hnb, sizeOfT_run hs, hnot, typeInfo, hi, hib0, hfit, h63, Question.forced, hold, h0, hx0, newRow, grownCap]
    · cases he
  · cases he
end
end Go.Am

/- Every operation that is no call. -/
namespace Go.Am
section
variable {P : Program} {n : Nat} {ρ : Env} {g : RT} {a : Act} {h h' : AH} {w : World} {v : AV}

theorem compOpds_nil {l : List Operand} (h : compOpds l = some []) : l = [] := by
  cases l with
  | nil => rfl
  | cons x l =>
    simp only [compOpds, opt_some] at h
    obtain ⟨_, _, _, _, h⟩ := h
    cases h
theorem compOpds_cons {l : List Operand} {x' : Opd} {l' : List Opd} (h : compOpds l = some (x' :: l')) : ∃ x t, l = x :: t ∧ compOpd x = some x' ∧ compOpds t = some l' := by
  cases l with
  | nil => simp [compOpds] at h
  | cons x l =>
    simp only [compOpds, opt_some] at h
    obtain ⟨y, h1, ys, h2, h3⟩ := h
    injection h3 with h3
    injection h3 with h3 h4
    subst h3 h4
    exact ⟨x, l, rfl, h1, h2⟩
theorem arr_of_list {α : Type} {x : Array α} {l : List α} (h : x.toList = l) : x = l.toArray := by
  apply Array.ext'
  simpa using h

theorem find_add64 {fn : Func} (hn : fn.name = "math/bits.Add64") : Extern.find fn = some add64Entry := by
  unfold Extern.find
  rw [hn]
  rfl
theorem isAdd64_call {f : FuncId} (h : isAdd64 P f = true) (args : Array Value) (w : World) : (callFunc f args).run P w = ((add64Entry args).run P w).andThen fun v w' => .ok (.value v) w' := by
  unfold isAdd64 at h
  split at h
  · rename_i fn hf
    simp only [Bool.and_eq_true, beq_iff_eq] at h
    obtain ⟨⟨h1, h2⟩, h3⟩ := h
    refine run_callFunc_extern hf (by rw [h2]; decide) h1 ?_ (find_add64 h2) args w
    cases hx : Extern.findNext fn with
    | none => rfl
    | some e => rw [hx] at h3; cases h3
  · cases h
theorem step_add64 (hf : FRel n ρ g a) (hr : HRel ρ h w) {f : FuncId} (h1 : isAdd64 P f = true) {l : List Operand} {x y z : Opd} (hc : compOpds l = some [x, y, z])
    (he : evOp (.add64 x y z) g h = some (v, h')) : Step P (callFunc f (l.map a.eval).toArray) ρ h w v h' := by
  have d := opds_den hf hc
  simp only [evOp] at he
  split at he
  · rename_i A B C hx hy hz
    split at he
    · rename_i hb
      injection he with he
      injection he with e1 e2
      subst e1 e2
      simp only [List.map_cons, List.map_nil, hx, hy, hz] at d
      have e : l.map a.eval = [.int .u64 A, .int .u64 B, .int .u64 C] := (Option.some.inj d).symm
      rw [e]
      refine ⟨.tuple #[.int .u64 ((A + B + C) % 18446744073709551616), .int .u64 ((A + B + C) / 18446744073709551616)], w, ρ, .inl ?_, rfl, .refl hr⟩
      rw [isAdd64_call h1]
      have := run_add64 (P := P) A B C hb.1 hb.2.1 hb.2.2.1 hb.2.2.2 w
      rw [show ([Value.int .u64 A, .int .u64 B, .int .u64 C] : List Value).toArray = #[.int .u64 A, .int .u64 B, .int .u64 C] from rfl, this]
      rfl
    · cases he
  · cases he


theorem step_bltn (hf : FRel n ρ g a) (hr : HRel ρ h w) {c : Call} {b : Builtin} {ty : TypeId} {consts : Array Bool} {ao : AOp} (hb : c.callee = .builtin b) (hc : compCall P c = some ao) (hfr : ∀ id, h.next ≤ id → id < h'.next → ρ id = none)
    (he : evOp ao g h = some (v, h')) : Step P (builtin b c.argTypes ty consts (c.args.map a.eval)) ρ h w v h' := by
  unfold compCall at hc
  rw [hb] at hc
  dsimp only at hc
  obtain ⟨l, h1, h2⟩ := opt_some.1 hc
  have hargs : c.args.map a.eval = (c.args.toList.map a.eval).toArray := by apply Array.ext'; simp
  split at h2
  · -- len
    rename_i t x' htl
    obtain ⟨x, l0, e1, e2, e3⟩ := compOpds_cons h1
    obtain rfl := compOpds_nil e3
    rw [hargs, e1, arr_of_list htl]
    obtain ⟨d, k1, k2⟩ := opt_some.1 h2
    split at k2
    · injection k2 with k2; subst k2
      exact step_len hf hr e2 (.inl ⟨rfl, k1⟩) he
    · injection k2 with k2; subst k2
      exact step_len hf hr e2 (.inr (.inl ⟨rfl, _, k1⟩)) he
    · injection k2 with k2; subst k2
      exact step_len hf hr e2 (.inr (.inr (.inl ⟨rfl, _, _, k1⟩))) he
    · injection k2 with k2; subst k2
      exact step_len hf hr e2 (.inr (.inr (.inr (.inl ⟨_, _, rfl, k1⟩)))) he
    · obtain ⟨d2, k3, k4⟩ := opt_some.1 k2
      split at k4
      · injection k4 with k4; subst k4
        exact step_len hf hr e2 (.inr (.inr (.inr (.inr ⟨_, _, _, rfl, k1, k3⟩)))) he
      · cases k4
    · cases k2
  · -- cap
    rename_i t x' htl
    obtain ⟨x, l0, e1, e2, e3⟩ := compOpds_cons h1
    obtain rfl := compOpds_nil e3
    rw [hargs, e1, arr_of_list htl]
    obtain ⟨d, k1, k2⟩ := opt_some.1 h2
    split at k2
    · injection k2 with k2; subst k2
      exact step_cap hf hr e2 k1 he
    · cases k2
  · -- append
    rename_i t u rest x' y' htl
    obtain ⟨x, l0, e1, e2, e3⟩ := compOpds_cons h1
    obtain ⟨y, l1, rfl, e4, e5⟩ := compOpds_cons e3
    obtain rfl := compOpds_nil e5
    rw [hargs, e1, arr_of_list htl]
    obtain ⟨d, k1, k2⟩ := opt_some.1 h2
    split at k2
    · obtain ⟨s, k3, k4⟩ := opt_some.1 k2
      obtain ⟨bb, k5, k6⟩ := opt_some.1 k4
      obtain ⟨z, k7, k8⟩ := opt_some.1 k6
      obtain ⟨ud, k9, k10⟩ := opt_some.1 k8
      split at k10
      · split at k10
        · cases k10
        · rename_i hq
          simp only [not_or, Decidable.not_not] at hq
          obtain ⟨q1, q2, q3, q4⟩ := hq
          injection k10 with k10; subst k10
          exact step_appendZ hf hr k1 k9 k3 k5 k7 q1 q2 q3 (Nat.le_of_not_lt q4) e2 e4 hfr he
      · split at k10
        · cases k10
        · rename_i hq
          simp only [not_or, Decidable.not_not] at hq
          obtain ⟨q1, q2, q3⟩ := hq
          injection k10 with k10; subst k10
          exact step_append hf hr k1 k9 (.inr ⟨_, rfl⟩) k3 k5 k7 q1 q2 q3 e2 e4 hfr he
      · split at k10
        · cases k10
        · rename_i hq
          simp only [not_or, Decidable.not_not] at hq
          obtain ⟨q1, q2, q3⟩ := hq
          injection k10 with k10; subst k10
          exact step_append hf hr k1 k9 (.inl rfl) k3 k5 k7 q1 q2 q3 e2 e4 hfr he
      · cases k10
    · cases k2
  · -- copy
    rename_i t rest x' y' htl
    obtain ⟨x, l0, e1, e2, e3⟩ := compOpds_cons h1
    obtain ⟨y, l1, rfl, e4, e5⟩ := compOpds_cons e3
    obtain rfl := compOpds_nil e5
    rw [hargs, e1, arr_of_list htl]
    obtain ⟨d, k1, k2⟩ := opt_some.1 h2
    split at k2
    · obtain ⟨s, k3, k4⟩ := opt_some.1 k2
      injection k4 with k4; subst k4
      exact step_copy (u := t) hf hr k1 k3 e2 e4 he
    · cases k2
  · injection h2 with h2; subst h2
    rw [hargs]
    exact step_maxmin (ts := c.argTypes) (ty := ty) hf hr true h1 he
  · injection h2 with h2; subst h2
    rw [hargs]
    exact step_maxmin (ts := c.argTypes) (ty := ty) hf hr false h1 he
  · cases h2

theorem compOpt_map {x : Option Operand} {x' : Option Opd} (h : compOpt x = some x') : x'.isSome = x.isSome := by
  cases x with
  | none => simp only [compOpt, Option.some.injEq] at h; subst h; rfl
  | some x => simp only [compOpt, opt_some, Option.some.injEq] at h; obtain ⟨_, _, rfl⟩ := h; rfl

theorem step_op (hf : FRel n ρ g a) (hr : HRel ρ h w) {o : Oper} {ao : AOp} (hc : compOp P o = some ao) (hfr : ∀ id, h.next ≤ id → id < h'.next → ρ id = none)
    (he : evOp ao g h = some (v, h')) : Step P (execOp a.eval o) ρ h w v h' := by
  unfold compOp at hc
  cases ho : o.op <;> rw [ho] at hc <;> dsimp only at hc <;> try (cases hc; done)
  case move x =>
    obtain ⟨x', e1, e2⟩ := opt_some.1 hc
    injection e2 with e2; subst e2
    simp only [execOp, ho]
    exact step_mv hf hr e1 he
  case assign x =>
    obtain ⟨x', e1, e2⟩ := opt_some.1 hc
    injection e2 with e2; subst e2
    simp only [execOp, ho]
    exact step_mv hf hr e1 he
  case pick c x y =>
    obtain ⟨c', e1, e2⟩ := opt_some.1 hc
    obtain ⟨x', e3, e4⟩ := opt_some.1 e2
    obtain ⟨y', e5, e6⟩ := opt_some.1 e4
    injection e6 with e6; subst e6
    simp only [execOp, ho]
    exact step_pick hf hr e1 e3 e5 he
  case alloc e =>
    obtain ⟨z, e1, e2⟩ := opt_some.1 hc
    injection e2 with e2; subst e2
    simp only [execOp, ho]
    exact step_alloc hr e1 hfr he
  case box e x =>
    obtain ⟨m, e1, e2⟩ := opt_some.1 hc
    obtain ⟨x', e3, e4⟩ := opt_some.1 e2
    injection e4 with e4; subst e4
    simp only [execOp, ho]
    exact step_box hf hr e3 hfr he
  case build t parts =>
    obtain ⟨z, e1, e2⟩ := opt_some.1 hc
    obtain ⟨d, e3, e4⟩ := opt_some.1 e2
    simp only [execOp, ho]
    split at e4
    · rename_i fs
      split at e4
      · cases e4
      · rename_i hall
        obtain ⟨ps, e5, e6⟩ := opt_some.1 e4
        injection e6 with e6; subst e6
        exact step_build_struct hf hr e1 e3 (by cases hq : (fs.all fun f => (sizeOfT P f.type).isSome) with | true => rfl | false => rw [hq] at hall; exact absurd rfl hall) e5 he
    · obtain ⟨s, e5, e6⟩ := opt_some.1 e4
      obtain ⟨ps, e7, e8⟩ := opt_some.1 e6
      injection e8 with e8; subst e8
      exact step_build_array hf hr e1 e3 e5 e7 he
    · cases e4
  case buildSlice t len parts =>
    obtain ⟨d, e1, e2⟩ := opt_some.1 hc
    simp only [execOp, ho]
    split at e2
    · obtain ⟨s, e3, e4⟩ := opt_some.1 e2
      obtain ⟨z, e5, e6⟩ := opt_some.1 e4
      split at e6
      · cases e6
      · rename_i hq
        simp only [not_or, Decidable.not_not] at hq
        obtain ⟨ps, e7, e8⟩ := opt_some.1 e6
        injection e8 with e8; subst e8
        exact step_buildSlice hf hr e1 e3 e5 hq.1 hq.2 e7 hfr he
    · cases e2
  case load t x =>
    obtain ⟨b, e1, e2⟩ := opt_some.1 hc
    obtain ⟨m, e3, e4⟩ := opt_some.1 e2
    obtain ⟨x', e5, e6⟩ := opt_some.1 e4
    injection e6 with e6; subst e6
    simp only [execOp, ho]
    cases b with
    | true => exact step_loadN hf hr e1 e3 e5 he
    | false => exact step_load1 hf hr e1 e5 he
  case store t x y =>
    obtain ⟨m, e1, e2⟩ := opt_some.1 hc
    obtain ⟨x', e3, e4⟩ := opt_some.1 e2
    obtain ⟨y', e5, e6⟩ := opt_some.1 e4
    injection e6 with e6; subst e6
    simp only [execOp, ho]
    exact step_store hf hr e1 e3 e5 he
  case nilCheck x =>
    obtain ⟨x', e1, e2⟩ := opt_some.1 hc
    injection e2 with e2; subst e2
    exact step_nilCheck hf hr e1 o ho he
  case binOp op t x y q =>
    obtain ⟨x', e1, e2⟩ := opt_some.1 hc
    obtain ⟨y', e3, e4⟩ := opt_some.1 e2
    obtain ⟨d, e5, e6⟩ := opt_some.1 e4
    simp only [execOp, ho]
    split at e6 <;> first
      | (injection e6 with e6; subst e6; exact step_bin hf hr e1 e3 he)
      | (injection e6 with e6; subst e6; exact step_eqnil hf hr false (k := 0) ⟨_, e5⟩ e1 e3 he)
      | (injection e6 with e6; subst e6; exact step_eqnil hf hr true (k := 0) ⟨_, e5⟩ e1 e3 he)
      | (injection e6 with e6; subst e6; exact step_eqnil hf hr false (k := 1) ⟨_, e5⟩ e1 e3 he)
      | (injection e6 with e6; subst e6; exact step_eqnil hf hr true (k := 1) ⟨_, e5⟩ e1 e3 he)
      | (injection e6 with e6; subst e6; exact step_eqnil hf hr false (k := 2) ⟨_, _, e5⟩ e1 e3 he)
      | (injection e6 with e6; subst e6; exact step_eqnil hf hr true (k := 2) ⟨_, _, e5⟩ e1 e3 he)
      | (injection e6 with e6; subst e6; exact step_eqnil hf hr false (k := 3) ⟨_, _, _, e5⟩ e1 e3 he)
      | (injection e6 with e6; subst e6; exact step_eqnil hf hr true (k := 3) ⟨_, _, _, e5⟩ e1 e3 he)
      | (cases e6; done)
      | skip
    all_goals (obtain ⟨⟨ts, gg⟩, k1, k2⟩ := opt_some.1 e6)
    all_goals (dsimp only at k2; injection k2 with k2; subst k2)
    · exact step_eql hf hr false k1 (.inl e5) e1 e3 he
    · exact step_eql hf hr false k1 (.inr (by
        simp only [eqTysOf, e5, opt] at k1
        split at k1
        · split at k1
          · injection k1 with k1; injection k1 with _ k1; exact k1.symm
          · cases k1
        · cases k1)) e1 e3 he
    · exact step_eql hf hr false k1 (.inr (by
        simp only [eqTysOf, e5, opt] at k1
        split at k1
        · split at k1
          · injection k1 with k1; injection k1 with _ k1; exact k1.symm
          · cases k1
        · cases k1)) e1 e3 he
    · exact step_eql hf hr true k1 (.inl e5) e1 e3 he
    · exact step_eql hf hr true k1 (.inr (by
        simp only [eqTysOf, e5, opt] at k1
        split at k1
        · split at k1
          · injection k1 with k1; injection k1 with _ k1; exact k1.symm
          · cases k1
        · cases k1)) e1 e3 he
    · exact step_eql hf hr true k1 (.inr (by
        simp only [eqTysOf, e5, opt] at k1
        split at k1
        · split at k1
          · injection k1 with k1; injection k1 with _ k1; exact k1.symm
          · cases k1
        · cases k1)) e1 e3 he
  case unOp op t x =>
    obtain ⟨x', e1, e2⟩ := opt_some.1 hc
    injection e2 with e2; subst e2
    simp only [execOp, ho]
    exact step_un hf hr e1 he
  case convert s d x =>
    obtain ⟨su, e1, e2⟩ := opt_some.1 hc
    obtain ⟨du, e3, e4⟩ := opt_some.1 e2
    obtain ⟨x', e5, e6⟩ := opt_some.1 e4
    simp only [execOp, ho]
    split at e6
    · injection e6 with e6; subst e6
      exact step_toInt hf hr e1 e3 e5 he
    · injection e6 with e6; subst e6
      exact step_same hf hr e1 e3 e5 he
    · obtain ⟨ed, e7, e8⟩ := opt_some.1 e6
      split at e8
      · injection e8 with e8; subst e8
        exact step_bytesOf hf hr e1 e3 e7 e5 hfr he
      · cases e8
    · obtain ⟨ed, e7, e8⟩ := opt_some.1 e6
      split at e8
      · split at e8
        · rename_i hsd
          subst hsd
          injection e8 with e8; subst e8
          exact step_sameSl hf hr e3 e7 e5 he
        · cases e8
      · cases e8
    · obtain ⟨ed, e7, e8⟩ := opt_some.1 e6
      split at e8
      · injection e8 with e8; subst e8
        exact step_strOf hf hr e1 e3 e7 e5 he
      · cases e8
    · cases e6
  case sliceToArrayPointer d x =>
    obtain ⟨dd, e1, e2⟩ := opt_some.1 hc
    simp only [execOp, ho]
    split at e2
    · obtain ⟨x', e3, e4⟩ := opt_some.1 e2
      injection e4 with e4; subst e4
      exact step_toArr hf hr e3 e1 he
    · cases e2
  case makeFunc fn p q =>
    split at hc
    · cases hc
    · rename_i hfn
      obtain ⟨p', e1, e2⟩ := opt_some.1 hc
      obtain ⟨q', e3, e4⟩ := opt_some.1 e2
      injection e4 with e4; subst e4
      simp only [execOp, ho]
      exact step_makeFunc hf hr (fun l hl => hfn l hl) e1 e3 he
  case makeMap t r =>
    simp only [execOp, ho]
    split at hc
    · injection hc with hc; subst hc
      exact step_makeMap (kt := t) (e := t) hr (fun h => by cases h) (.inl rfl) hfr he
    · obtain ⟨d, e1, e2⟩ := opt_some.1 hc
      split at e2
      · injection e2 with e2; subst e2
        exact step_makeMap hr (fun _ => e1) (.inr ⟨_, _, rfl⟩) hfr he
      · cases e2
    · cases hc
  case makeSlice t l c =>
    obtain ⟨d, e1, e2⟩ := opt_some.1 hc
    simp only [execOp, ho]
    split at e2
    · obtain ⟨s, e3, e4⟩ := opt_some.1 e2
      obtain ⟨b, e5, e6⟩ := opt_some.1 e4
      obtain ⟨z, e7, e8⟩ := opt_some.1 e6
      obtain ⟨l', e9, e10⟩ := opt_some.1 e8
      obtain ⟨c', e11, e12⟩ := opt_some.1 e10
      split at e12
      · cases e12
      · rename_i hq
        injection e12 with e12; subst e12
        exact step_makeSlice hf hr e1 e3 e5 e7 (Decidable.not_not.1 hq) e9 e11 hfr he
    · cases e2
  case slice t x lo hi mx =>
    split at hc
    · cases hc
    · rename_i hq
      obtain ⟨x', e1, e2⟩ := opt_some.1 hc
      obtain ⟨lo', e3, e4⟩ := opt_some.1 e2
      obtain ⟨hi', e5, e6⟩ := opt_some.1 e4
      obtain ⟨mx', e7, e8⟩ := opt_some.1 e6
      obtain ⟨d, e9, e10⟩ := opt_some.1 e8
      have hm : mx'.isSome = true → hi'.isSome = true := by
        rw [compOpt_map e7, compOpt_map e5]
        intro hm
        cases hi with
        | some _ => rfl
        | none => simp [hm] at hq
      simp only [execOp, ho]
      split at e10
      · obtain ⟨s, k1, k2⟩ := opt_some.1 e10
        injection k2 with k2; subst k2
        exact step_sliceArr hf hr (.inl e9) k1 e1 e3 e5 e7 hm he
      · obtain ⟨d2, k1, k2⟩ := opt_some.1 e10
        split at k2
        · obtain ⟨s, k3, k4⟩ := opt_some.1 k2
          injection k4 with k4; subst k4
          exact step_sliceArr hf hr (.inr ⟨_, e9, k1⟩) k3 e1 e3 e5 e7 hm he
        · cases k2
      · obtain ⟨s, k1, k2⟩ := opt_some.1 e10
        injection k2 with k2; subst k2
        exact step_sliceSl hf hr e9 k1 e1 e3 e5 e7 hm hfr he
      · split at e10
        · cases e10
        · rename_i hmx
          injection e10 with e10; subst e10
          have : mx = none := by
            cases mx with
            | none => rfl
            | some _ => rw [compOpt_map e7] at hmx; exact absurd rfl hmx
          subst this
          exact step_sliceStr hf hr e9 e1 e3 e5 he
      · cases e10
  case fieldAddr t x f =>
    obtain ⟨d, e1, e2⟩ := opt_some.1 hc
    simp only [execOp, ho]
    split at e2
    · obtain ⟨fd, e3, e4⟩ := opt_some.1 e2
      obtain ⟨s, e5, e6⟩ := opt_some.1 e4
      split at e6
      · cases e6
      · rename_i hs0
        obtain ⟨x', e7, e8⟩ := opt_some.1 e6
        injection e8 with e8; subst e8
        exact step_fieldAt hf hr e1 e3 e5 hs0 e7 he
    · cases e2
  case field t x f =>
    obtain ⟨d, e1, e2⟩ := opt_some.1 hc
    simp only [execOp, ho]
    split at e2
    · obtain ⟨fd, e3, e4⟩ := opt_some.1 e2
      obtain ⟨s, e5, e6⟩ := opt_some.1 e4
      obtain ⟨b, e7, e8⟩ := opt_some.1 e6
      obtain ⟨x', e9, e10⟩ := opt_some.1 e8
      injection e10 with e10; subst e10
      exact step_part hf hr e1 e3 e7 e5 e9 he
    · cases e2
  case indexAddr t x i =>
    obtain ⟨x', e1, e2⟩ := opt_some.1 hc
    obtain ⟨i', e3, e4⟩ := opt_some.1 e2
    obtain ⟨d, e5, e6⟩ := opt_some.1 e4
    simp only [execOp, ho]
    split at e6
    · obtain ⟨s, e7, e8⟩ := opt_some.1 e6
      injection e8 with e8; subst e8
      exact step_indexArr hf hr e5 e7 e1 e3 he
    · obtain ⟨s, e7, e8⟩ := opt_some.1 e6
      injection e8 with e8; subst e8
      exact step_indexSl hf hr e5 e7 e1 e3 he
    · cases e6
  case index t x i =>
    obtain ⟨x', e1, e2⟩ := opt_some.1 hc
    obtain ⟨i', e3, e4⟩ := opt_some.1 e2
    obtain ⟨d, e5, e6⟩ := opt_some.1 e4
    simp only [execOp, ho]
    split at e6
    · obtain ⟨s, e7, e8⟩ := opt_some.1 e6
      obtain ⟨b, e9, e10⟩ := opt_some.1 e8
      injection e10 with e10; subst e10
      exact step_indexAgg hf hr e5 e9 e7 e1 e3 he
    · injection e6 with e6; subst e6
      exact step_indexStr hf hr e5 e1 e3 he
    · cases e6
  case lookup t m k ok =>
    obtain ⟨m', e1, e2⟩ := opt_some.1 hc
    obtain ⟨k', e3, e4⟩ := opt_some.1 e2
    obtain ⟨d, e5, e6⟩ := opt_some.1 e4
    simp only [execOp, ho]
    split at e6
    · obtain ⟨⟨ts, b⟩, e7, e8⟩ := opt_some.1 e6
      obtain ⟨z, e9, e10⟩ := opt_some.1 e8
      injection e10 with e10; subst e10
      exact step_lookup hf hr e5 e7 e9 e1 e3 he
    · cases e6
  case mapUpdate t m k x =>
    obtain ⟨m', e1, e2⟩ := opt_some.1 hc
    obtain ⟨k', e3, e4⟩ := opt_some.1 e2
    obtain ⟨x', e5, e6⟩ := opt_some.1 e4
    obtain ⟨d, e7, e8⟩ := opt_some.1 e6
    simp only [execOp, ho]
    split at e8
    · obtain ⟨⟨ts, b⟩, e9, e10⟩ := opt_some.1 e8
      injection e10 with e10; subst e10
      exact step_mapUpdate hf hr e7 e9 e1 e3 e5 he
    · cases e8
  case insert t m k x =>
    obtain ⟨m', e1, e2⟩ := opt_some.1 hc
    obtain ⟨k', e3, e4⟩ := opt_some.1 e2
    obtain ⟨x', e5, e6⟩ := opt_some.1 e4
    obtain ⟨d, e7, e8⟩ := opt_some.1 e6
    simp only [execOp, ho]
    split at e8
    · obtain ⟨⟨ts, b⟩, e9, e10⟩ := opt_some.1 e8
      injection e10 with e10; subst e10
      exact step_mapUpdate hf hr e7 e9 e1 e3 e5 he
    · cases e8
  case extract x i =>
    obtain ⟨x', e1, e2⟩ := opt_some.1 hc
    injection e2 with e2; subst e2
    simp only [execOp, ho]
    exact step_extract hf hr e1 he
  case call c =>
    simp only [execOp, ho]
    cases hcal : c.callee with
    | value y =>
      unfold compCall at hc
      rw [hcal] at hc
      cases y with
      | func f =>
        dsimp only at hc
        obtain ⟨l, e1, e2⟩ := opt_some.1 hc
        injection e2 with e2
        subst e2
        unfold callOf at he
        split at he
        · split at he
          · rename_i h64
            have key := step_add64 hf hr h64 e1 he
            simp only [resolve, hcal]
            show Step P (callFunc f (#[] ++ c.args.map a.eval ++ #[])) ρ h w v h'
            rw [show (#[] ++ c.args.map a.eval ++ #[]) = (c.args.toList.map a.eval).toArray from by apply Array.ext'; simp]
            exact key
          · cases he
        · cases he
      | _ =>
        exfalso
        dsimp only at hc
        obtain ⟨l, e1, e2⟩ := opt_some.1 hc
        obtain ⟨l2, e3, e4⟩ := opt_some.1 e2
        injection e4 with e4
        subst e4
        cases he
    | invoke r m =>
      unfold compCall at hc
      rw [hcal] at hc
      cases hc
    | builtin b =>
      have := step_bltn (ty := o.type) (consts := c.args.map fun | .const _ => true | _ => false) hf hr hcal hc hfr he
      simp only [resolve, hcal]
      exact this
end
end Go.Am

/- Laws of the abstract operations alone. -/
namespace Go.Am
section
variable {g : RT} {h h' : AH} {v : AV}

/-- t's objects, those of t' at the names of l -/
def patch (t t' : HT) (l : List Nat) : HT := l.foldl (fun t i => t.set i (t'.get i)) t
theorem get_patch (t' : HT) : ∀ (l : List Nat) (t : HT) (i : Nat), (patch t t' l).get i = if i ∈ l then t'.get i else t.get i
  | [], t, i => by simp [patch]
  | j :: l, t, i => by
    have := get_patch t' l (t.set j (t'.get j)) i
    unfold patch at this ⊢
    rw [List.foldl_cons, this, HT.get_set]
    by_cases h1 : i ∈ l
    · simp [h1]
    · by_cases h2 : i = j
      · subst h2; simp [h1]
      · simp [h1, h2]

/-- no object bears a name that is still to come -/
def AH.bd (h : AH) : Prop := ∀ id, h.next ≤ id → h.get id = none
theorem AH.bd.lt {h : AH} (hb : h.bd) {id : Nat} {o : AO} (e : h.get id = some o) : id < h.next := by
  rcases Nat.lt_or_ge id h.next with q | q
  · exact q
  · rw [hb id q] at e; cases e
/-- what may not be written is as it was; names to come are free -/
def Kept (h h' : AH) : Prop := (∀ id, id < h.floor → id < h.next → h'.get id = h.get id) ∧ (h.bd → h'.bd)

/-- the next name only grows; nothing else that is no object changes -/
def Grow (h h' : AH) : Prop := h.next ≤ h'.next ∧ h'.floor = h.floor ∧ h'.marks = h.marks ∧ Kept h h'
theorem Grow.refl (h : AH) : Grow h h := ⟨Nat.le_refl _, rfl, rfl, fun _ _ _ => rfl, id⟩
theorem Grow.new (h : AH) (o : AO) : Grow h (h.new o).2 := by
  have hget : ∀ i, (h.new o).2.get i = if i = h.next then some o else h.get i := fun i => HT.get_set _ _ _ _
  refine ⟨Nat.le_succ _, rfl, rfl, fun id _ hn => ?_, fun hb id hid => ?_⟩
  · rw [hget, if_neg (by omega)]
  · have : h.next + 1 ≤ id := hid
    rw [hget, if_neg (by omega)]
    exact hb id (by omega)
theorem Grow.trans {a b c : AH} (x : Grow a b) (y : Grow b c) : Grow a c :=
  ⟨Nat.le_trans x.1 y.1, y.2.1.trans x.2.1, y.2.2.1.trans x.2.2.1, fun id hf hn => (y.2.2.2.1 id (x.2.1 ▸ hf) (Nat.lt_of_lt_of_le hn x.1)).trans (x.2.2.2.1 id hf hn), fun hb => y.2.2.2.2 (x.2.2.2.2 hb)⟩

theorem put_next {id : Nat} {o : Option AO} (e : h.put id o = some h') : h'.next = h.next ∧ h'.floor = h.floor ∧ h'.marks = h.marks ∧ (∀ i, i < h.floor → h'.get i = h.get i) ∧ (id < h.next → h.bd → h'.bd) := by
  obtain ⟨hf, rfl⟩ := put_some e
  have hget : ∀ i, ({ h with tr := h.tr.set id o } : AH).get i = if i = id then o else h.get i := fun i => HT.get_set _ _ _ _
  refine ⟨rfl, rfl, rfl, fun i hi => ?_, fun hl hb i hi => ?_⟩
  · rw [hget, if_neg (by omega)]
  · have : h.next ≤ i := hi
    rw [hget, if_neg (by omega)]
    exact hb i this
theorem put_grow {id : Nat} {o : Option AO} {x : AO} (e : h.put id o = some h') (hx : h.get id = some x) : Grow h h' := by
  obtain ⟨a, b, c, d, f⟩ := put_next e
  exact ⟨Nat.le_of_eq a.symm, b, c, fun i hi _ => d i hi, fun hb => f (hb.lt hx) hb⟩
theorem write_grow {id off : Nat} {vs : List AV} (e : h.write id off vs = some h') : Grow h h' := by
  unfold AH.write at e
  split at e
  · injection e with e; subst e; exact .refl _
  · split at e
    · rename_i e' cs k ho
      split at e
      · cases e
      · split at e
        · exact put_grow e ho
        · cases e
    · cases e

theorem appendV_grow {e b : Nat} {s : AV} {n : Nat} {new : List AV} (he : appendV e b s n new h = some (v, h')) : Grow h h' := by
  unfold appendV at he
  split at he
  · split at he
    · injection he with he; injection he with _ he; subst he; exact .refl _
    · split at he
      · cases he
      · injection he with he; injection he with _ he; subst he; exact .new _ _
  · split at he
    · obtain ⟨_, e1, e2⟩ := opt_some.1 he
      injection e2 with e2; injection e2 with _ e2; subst e2
      exact write_grow e1
    · split at he
      · cases he
      · obtain ⟨_, e1, e2⟩ := opt_some.1 he
        injection e2 with e2; injection e2 with _ e2; subst e2
        exact .new _ _
  · split at he
    · split at he
      · injection he with he; injection he with _ he; subst he; exact .refl _
      · cases he
    · split at he
      · rename_i ho
        split at he
        · cases he
        · split at he
          · obtain ⟨_, e1, e2⟩ := opt_some.1 he
            injection e2 with e2; injection e2 with _ e2; subst e2
            exact write_grow e1
          · obtain ⟨_, e1, e2⟩ := opt_some.1 he
            obtain ⟨_, e3, e4⟩ := opt_some.1 e2
            injection e4 with e4; injection e4 with _ e4; subst e4
            exact (put_grow e3 ho).trans (.new _ _)
      · cases he
  · cases he

theorem sliceSlV_grow {e : Nat} {ph : Bool} {x : AV} {lo hi mx : Option AV} (he : sliceSlV e ph x lo hi mx h = some (v, h')) : Grow h h' ∧ (ph = false → h' = h) := by
  unfold sliceSlV at he
  split at he
  · obtain ⟨_, _, he⟩ := opt_some.1 he
    obtain ⟨_, _, he⟩ := opt_some.1 he
    obtain ⟨_, _, he⟩ := opt_some.1 he
    injection he with he; injection he with _ he; subst he
    exact ⟨.refl _, fun _ => rfl⟩
  · obtain ⟨_, _, he⟩ := opt_some.1 he
    obtain ⟨_, _, he⟩ := opt_some.1 he
    obtain ⟨_, _, he⟩ := opt_some.1 he
    injection he with he; injection he with _ he; subst he
    exact ⟨.refl _, fun _ => rfl⟩
  · split at he
    · obtain ⟨_, _, he⟩ := opt_some.1 he
      obtain ⟨_, _, he⟩ := opt_some.1 he
      obtain ⟨_, _, he⟩ := opt_some.1 he
      injection he with he; injection he with _ he; subst he
      exact ⟨.refl _, fun _ => rfl⟩
    · obtain ⟨_, _, he⟩ := opt_some.1 he
      obtain ⟨_, _, he⟩ := opt_some.1 he
      split at he
      · injection he with he; injection he with _ he; subst he
        exact ⟨.refl _, fun _ => rfl⟩
      · split at he
        · injection he with he; injection he with _ he; subst he
          exact ⟨.refl _, fun _ => rfl⟩
        · split at he
          · rename_i hq
            injection he with he; injection he with _ he; subst he
            exact ⟨⟨Nat.le_succ _, rfl, rfl, fun _ _ _ => rfl, fun hb id hid => hb id (Nat.le_of_succ_le hid)⟩, fun hp => by rw [hp] at hq; exact absurd hq.2 (by simp)⟩
          · cases he
  · cases he

theorem pure1_eq {x : Option AV} (he : opt x (fun v => some (v, h)) = some (v, h')) : h' = h := by
  obtain ⟨_, _, e⟩ := opt_some.1 he
  injection e with e; injection e with _ e; exact e.symm

/-- reading changes nothing -/
theorem evOp_reads {o : AOp} (hu : heapUse o ≤ 1) (he : evOp o g h = some (v, h')) : h' = h := by
  cases o <;> simp only [evOp] at he
  case sliceSl e ph x lo hi mx =>
    cases ph with
    | true => simp [heapUse] at hu
    | false => exact (sliceSlV_grow he).2 rfl
  all_goals first
    | (simp [heapUse] at hu; done)
    | exact pure1_eq he
    | (cases he; done)
    | skip
  all_goals (repeat' (first
    | (cases he; done)
    | (exact pure1_eq he)
    | (injection he with he; injection he with _ he; exact he.symm)
    | split at he))

theorem evOp_grow {o : AOp} (he : evOp o g h = some (v, h')) : Grow h h' := by
  by_cases hu : heapUse o ≤ 1
  · rw [evOp_reads hu he]; exact .refl _
  · cases o
    case sameSl x =>
      simp only [evOp] at he
      split at he
      · split at he
        · rename_i ho
          split at he
          · cases he
          · obtain ⟨_, e1, e2⟩ := opt_some.1 he
            injection e2 with e2; injection e2 with _ e2; subst e2
            exact put_grow e1 ho
        · cases he
      · cases he
    case bytesOf x =>
      simp only [evOp] at he
      split at he
      · split at he
        · injection he with he; injection he with _ he; subst he; exact .new _ _
        · cases he
      · cases he
    case store n x y =>
      simp only [evOp] at he
      split at he
      · split at he
        · obtain ⟨_, e1, e2⟩ := opt_some.1 he
          injection e2 with e2; injection e2 with _ e2; subst e2
          exact write_grow e1
        · cases he
      · cases he
    case sliceSl => exact (sliceSlV_grow he).1
    case buildSlice e len z ps =>
      simp only [evOp] at he
      obtain ⟨_, _, he⟩ := opt_some.1 he
      split at he
      · injection he with he; injection he with _ he; subst he; exact .new _ _
      · cases he
    case box n x =>
      simp only [evOp] at he
      split at he
      · injection he with he; injection he with _ he; subst he; exact .new _ _
      · cases he
    case alloc z =>
      simp only [evOp] at he
      injection he with he; injection he with _ he; subst he; exact .new _ _
    case makeSlice e b z l c =>
      simp only [evOp] at he
      split at he
      · split at he
        · injection he with he; injection he with _ he; subst he; exact .new _ _
        · cases he
      · cases he
    case makeMap =>
      simp only [evOp] at he
      injection he with he; injection he with _ he; subst he; exact .new _ _
    case mapUpdate ts agg m k x =>
      simp only [evOp] at he
      split at he
      · split at he
        · rename_i ho
          split at he
          · obtain ⟨r, _, he⟩ := opt_some.1 he
            split at he
            · obtain ⟨_, e1, e2⟩ := opt_some.1 he
              injection e2 with e2; injection e2 with _ e2; subst e2
              exact put_grow e1 ho
            · obtain ⟨_, e1, e2⟩ := opt_some.1 he
              injection e2 with e2; injection e2 with _ e2; subst e2
              exact put_grow e1 ho
          · cases he
        · cases he
      · cases he
    case append e b x y =>
      simp only [evOp] at he
      obtain ⟨_, _, he⟩ := opt_some.1 he
      obtain ⟨_, _, he⟩ := opt_some.1 he
      exact appendV_grow he
    case appendZ e b z x y =>
      simp only [evOp] at he
      split at he
      · split at he
        · exact appendV_grow he
        · cases he
      · cases he
    case copy e x y =>
      simp only [evOp] at he
      split at he
      · obtain ⟨_, _, he⟩ := opt_some.1 he
        injection he with he; injection he with _ he; subst he; exact .refl _
      · obtain ⟨_, _, he⟩ := opt_some.1 he
        obtain ⟨_, _, he⟩ := opt_some.1 he
        obtain ⟨_, e1, e2⟩ := opt_some.1 he
        injection e2 with e2; injection e2 with _ e2; subst e2
        exact write_grow e1
      · cases he
    case call => cases he
    case callv => cases he
    all_goals first
      | (exact absurd (Nat.zero_le _) hu)
      | (exact absurd (Nat.le_refl 1) hu)
      | (simp [heapUse] at hu; done)
      | skip
    case len k x => cases k <;> simp [heapUse] at hu

theorem pure1_any {x : Option AV} {k : AH} (he : opt x (fun v => some (v, h)) = some (v, h')) : opt x (fun v => some (v, k)) = some (v, k) := by
  obtain ⟨x, e1, e⟩ := opt_some.1 he
  injection e with e; injection e with e _
  rw [e1, e]
  rfl

/-- what uses no heap does not look at it -/
theorem evOp_pure {o : AOp} (hu : heapUse o = 0) (he : evOp o g h = some (v, h')) (k : AH) : h' = h ∧ evOp o g k = some (v, k) := by
  refine ⟨evOp_reads (by omega) he, ?_⟩
  cases o <;> simp only [evOp] at he ⊢ <;> try (simp [heapUse] at hu; done)
  all_goals first
    | (obtain ⟨x, e1, e2⟩ := opt_some.1 he; injection e2 with e2; injection e2 with e2 _; rw [e1, e2]; rfl)
    | (injection he with he; injection he with he _; rw [he])
    | (cases he; done)
    | skip
  case sliceSl e ph x lo hi mx => cases ph <;> simp [heapUse] at hu
  all_goals (repeat' (first
    | (cases he; done)
    | (exact pure1_any he)
    | (injection he with he; injection he with he _; simp only [*]; done)
    | (simp only [*] at he ⊢; injection he with he; injection he with he _; simp only [*]; done)
    | split at he))
  · simp [heapUse] at hu
  · rename_i hle
    rw [if_pos hle]
    injection he with he; injection he with he _; rw [he]
  · rename_i hle
    rw [if_pos hle]
    injection he with he; injection he with he _; rw [he]
end
end Go.Am

/- Operations that are calls. -/
namespace Go.Am

/-- a fence that keeps nobody out -/
def WideF (F : Fence) : Prop := (∀ f, F.fn f) ∧ F.depth = none ∧ F.alive = false

theorem WideF.wide : WideF Fence.wide := ⟨fun _ => trivial, rfl, rfl⟩
theorem WideF.inRound (l : Nat) : WideF (Fence.wide.inRound l) := ⟨fun _ => trivial, rfl, rfl⟩

theorem WideF.fenced {F : Fence} (hF : WideF F) (P : Program) (m : Machine) : m.fenced P F := by
  intro g _
  refine ⟨fun h => ?_, Or.inl (hF.1 _), fun _ _ => hF.1 _, fun _ h => ?_⟩
  · rw [hF.2.2] at h; cases h
  · rw [hF.2.1] at h; cases h

/-- a call: the function is one of the program's, and it comes back with what is asked of it -/
structure Enters (P : Program) (f : FuncId) (xs : List Value) (w : World) (R : Ending → World → Prop) : Prop where
  call : (callFunc f xs.toArray).run P w = .ok (.enter f xs.toArray) w
  runs : ∀ F n, WideF F → CallsIn F n P f xs.toArray w R

/-- the round of a loop over a function -/
structure Yields' (P : Program) (l : Nat) (xs : List Value) (w : World) (R : Ending → World → Prop) : Prop where
  ex : ∃ f tmps assign body w1, (Instr.yield l xs.toArray).run P w = .ok (.round l f tmps assign body) w1 ∧ ∀ F n, WideF F → RoundIn F n P l f tmps assign body w1 R

def Fresh (ρ : Env) (h h' : AH) : Prop := ∀ id, h.next ≤ id → id < h'.next → ρ id = none

def YSound (P : Program) (ρ : Env) (Y : YH) : Prop := ∀ id fy, Y id = some fy → ∃ r, ρ id = some r ∧
  ∀ ρ', ρ.le ρ' → ∀ args h v h' w xs, fy args h = some (v, h') → denL ρ' args = some xs → HRel ρ' h w → GlobOk ρ' → Fresh ρ' h h' →
    ∀ R : Ending → World → Prop, (∀ x w' ρ'', v.den ρ'' = some x → Trans ρ' h w ρ'' h' w' → R (.returned x) w') → Yields' P r.block xs w R

theorem YSound.mono {P : Program} {ρ ρ' : Env} {Y : YH} (hy : YSound P ρ Y) (le : ρ.le ρ') : YSound P ρ' Y := fun id fy e =>
  let ⟨r, h1, h2⟩ := hy id fy e
  ⟨r, le _ _ h1, fun ρ'' le' => h2 ρ'' (Env.le_trans le le')⟩

def YGrow (Y : YH) : Prop := ∀ id fy args h v h', Y id = some fy → fy args h = some (v, h') → Grow h h'

def HSound (P : Program) (H : CallH) : Prop := ∀ Y ρ, YGrow Y → YSound P ρ Y → ∀ f args h v h' w xs, H Y f args h = some (v, h') → denL ρ args = some xs → HRel ρ h w → GlobOk ρ → Fresh ρ h h' →
  ∀ R : Ending → World → Prop, (∀ x w' ρ', v.den ρ' = some x → Trans ρ h w ρ' h' w' → R (.returned x) w') → Enters P f xs w R

section
variable {P : Program} {F : Fence} {n : Nat} {ρ : Env} {g : RT} {a : Act} {h h' : AH} {w : World} {v : AV}

/-- what an operation is to do: go on at a related place -/
def Next' (ρ : Env) (h : AH) (w : World) (v : AV) (h' : AH) (d : Option Tmp) (a : Act) (K : Act → World → Prop) : Prop :=
  ∀ x w' ρ', v.den ρ' = some x → Trans ρ h w ρ' h' w' → K (a.put d x) w'

theorem opWp_of_step (hF : WideF F) {m : Nat} {o : Oper} (hs : Step P (execOp a.eval o) ρ h w v h') (hd : ∀ c, o.op ≠ .defer c) {K : Act → World → Prop} {Q : Exit → Act → World → Prop} (hK : Next' ρ h w v h' o.dst a K) :
    o.wpIn F m P a w K Q := by
  obtain ⟨x, w', ρ', h1, h2, h3⟩ := hs
  refine ⟨fun f _ => hF.1 f, ?_⟩
  rw [Oper.semAt_eq _ _ _ hd]
  rcases h1 with h1 | ⟨h1, rfl⟩
  · rw [h1]
    exact hK x w' ρ' h2 h3
  · rw [h1]
    exact hK _ w' ρ' h2 h3

theorem opWp_of_enter (hF : WideF F) {m : Nat} {o : Oper} {f : FuncId} {xs : List Value} (hd : ∀ c, o.op ≠ .defer c) {K : Act → World → Prop} {Q : Exit → Act → World → Prop}
    (he : (execOp a.eval o).run P w = (callFunc f xs.toArray).run P w)
    (hR : Enters P f xs w fun e w'' => match e with
      | .returned x => K (a.put o.dst x) w''
      | .panicked chain => Q (.panic chain) a w''
      | .outgrown => LetsOut Q) : o.wpIn F m P a w K Q := by
  refine ⟨fun f _ => hF.1 f, ?_⟩
  rw [Oper.semAt_eq _ _ _ hd, he, hR.call, Oper.uponIn_enter]
  refine ⟨fun hq => ?_, CallsIn.mono (hR.runs F _ hF) fun e w'' he => ?_⟩
  · rw [hF.2.1] at hq; cases hq
  · cases e <;> exact he

theorem opWp_of_yield (hF : WideF F) {m : Nat} {o : Oper} {l : Nat} {xs : List Value} (hd : ∀ c, o.op ≠ .defer c) {K : Act → World → Prop} {Q : Exit → Act → World → Prop}
    (he : (execOp a.eval o).run P w = (Instr.yield l xs.toArray).run P w)
    (hR : Yields' P l xs w fun e w'' => match e with
      | .returned x => K (a.put o.dst x) w''
      | .panicked chain => Q (.panic chain) a w''
      | .outgrown => LetsOut Q) : o.wpIn F m P a w K Q := by
  obtain ⟨f, tmps, assign, body, w1, h1, h2⟩ := hR.ex
  refine ⟨fun f _ => hF.1 f, ?_⟩
  rw [Oper.semAt_eq _ _ _ hd, he, h1, Oper.uponIn_round]
  refine ⟨fun hq => ?_, RoundIn.mono (h2 F _ hF) fun e w'' he => ?_⟩
  · rw [hF.2.1] at hq; cases hq
  · cases e <;> exact he

/-- a heap that has only grown, none of what was there changed -/
theorem Trans.grown {w' : World} (hr : HRel ρ h w) (hs : w.heap.size ≤ w'.heap.size) (hk : ∀ b, b < w.heap.size → w'.heap[b]? = w.heap[b]?) (al : Alike w w') : Trans ρ h w ρ h w' := by
  refine ⟨Env.le_refl _, fun _ _ => rfl, Nat.le_refl _, rfl, ⟨fun id o ho => ?_, hr.inj, hr.bound⟩, hs, fun b hb _ => hk b hb, fun id o r h1 h2 h3 => .inr ?_, fun _ _ e => e, al⟩
  · obtain ⟨r, h1, h2⟩ := hr.obj id o ho
    exact ⟨r, h1, h2.congr (hk _ h2.lt)⟩
  · rcases h2 with h2 | h2
    · exact ⟨id, o, r, h1, h2, h3, rfl⟩
    · exact absurd (hr.bound id o h1) (Nat.not_lt.2 h2)

mutual
theorem flat_den {v : AV} (hf : v.flat = true) {ρ ρ' : Env} {x : Value} (hx : v.den ρ = some x) : v.den ρ' = some x := by
  cases v <;> simp only [AV.flat] at hf <;> try (cases hf; done)
  case bool => exact hx
  case int => exact hx
  case tuple l =>
    obtain ⟨xs, h1, rfl⟩ := den_tuple.1 hx
    refine den_tuple.2 ⟨xs, ?_, rfl⟩
    clear hx
    induction l generalizing xs with
    | nil => exact h1
    | cons u l ih =>
      simp only [List.all_cons, Bool.and_eq_true] at hf
      obtain ⟨y, ys, e1, e2, rfl⟩ := denL_cons.1 h1
      refine denL_cons.2 ⟨y, ys, ?_, ih hf.2 ys e2, rfl⟩
      cases u <;> simp at hf <;> exact e1
end
theorem flat_denL {l : List AV} (hf : l.all AV.flat = true) {ρ ρ' : Env} : ∀ {xs : List Value}, denL ρ l = some xs → denL ρ' l = some xs := by
  induction l with
  | nil => exact fun h => h
  | cons u l ih =>
    intro xs h1
    simp only [List.all_cons, Bool.and_eq_true] at hf
    obtain ⟨y, ys, e1, e2, rfl⟩ := denL_cons.1 h1
    exact denL_cons.2 ⟨y, ys, flat_den hf.1 e1, ih hf.2 e2, rfl⟩

theorem callFunc_run_congr {f : FuncId} {l : Array Value} {xs : List Value} (e : l.toList = xs) : (callFunc f l) = callFunc f xs.toArray := by
  rw [arr_of_list e]


theorem evOper_noCall {ao : AOp} (hn : noCall ao = true) (Y : YH) (H : CallH) : evOper Y H ao g h = evOp ao g h := by
  cases ao <;> first
    | rfl
    | (cases hn; done)
theorem callOf_cases (P : Program) (f : FuncId) (l : List Opd) : callOf P f l = .call f l ∨ noCall (callOf P f l) = true := by
  unfold callOf
  split
  · split
    · exact .inr rfl
    · exact .inl rfl
  · exact .inl rfl
theorem callOf_call {f f' : FuncId} {l l' : List Opd} (h : callOf P f l = .call f' l') : f = f' ∧ l = l' := by
  rcases callOf_cases P f l with e | e
  · rw [e] at h
    injection h with h1 h2
    exact ⟨h1, h2⟩
  · rw [h] at e
    cases e
theorem onlyNoCall_some {o : Option AOp} {ao : AOp} (h : onlyNoCall o = some ao) : o = some ao ∧ noCall ao = true := by
  unfold onlyNoCall at h
  obtain ⟨x, e1, e2⟩ := opt_some.1 h
  split at e2
  · injection e2 with e2
    subst e2
    exact ⟨e1, by assumption⟩
  · cases e2

/-- a call, or a step: what an operation of the abstract machine does, the model's does -/
theorem op_call (hF : WideF F) {m : Nat} {H : CallH} (hH : HSound P H) {Y : YH} (hyg : YGrow Y) (hY : YSound P ρ Y) (hf : FRel n ρ g a) (hr : HRel ρ h w) {o : Oper} {ao : AOp} (hc : compOp2 P o = some ao) (hfr : Fresh ρ h h')
    (he : evOper Y H ao g h = some (v, h')) {K : Act → World → Prop} {Q : Exit → Act → World → Prop} (hK : Next' ρ h w v h' o.dst a K) : o.wpIn F m P a w K Q := by
  have hsimple : onlyNoCall (compOp P o) = some ao → o.wpIn F m P a w K Q := by
    intro e
    obtain ⟨hc, e⟩ := onlyNoCall_some e
    rw [evOper_noCall e] at he
    refine opWp_of_step hF (step_op hf hr hc hfr he) (fun c hd => ?_) hK
    unfold compOp at hc
    rw [hd] at hc
    cases hc
  by_cases hcall : ∀ c, o.op ≠ .call c
  · refine hsimple ?_
    unfold compOp2 at hc
    split at hc
    · rename_i c hop
      exact absurd hop (hcall c)
    · exact hc
  · obtain ⟨c, ho⟩ : ∃ c, o.op = .call c := Classical.byContradiction fun hn => hcall fun c e => hn ⟨c, e⟩
    have hnd : ∀ c, o.op ≠ .defer c := fun c e => by rw [ho] at e; cases e
    have hc' := hc
    unfold compOp2 at hc'
    rw [ho] at hc'
    dsimp only at hc'
    cases hcal : c.callee with
    | invoke r m =>
      rw [hcal] at hc'
      exact hsimple hc'
    | builtin b =>
      rw [hcal] at hc'
      exact hsimple hc'
    | value y =>
      have hv : (compOpd y = none → False) → (∀ y', compOpd y = some y' → ∀ l, compOpds c.args.toList = some l → evOper Y H (.callv y' l) g h = some (v, h') → o.wpIn F m P a w K Q) := by
        intro _ y' e1 l e2 he
        have d1 := opd_den hf e1
        have d2 := opds_den hf e2
        simp only [evOper] at he
        split at he
        · rename_i k first captured hy
          rw [hy] at d1
          obtain ⟨fn, xs, ys, q1, q2, q3, q4⟩ := den_func.1 d1
          simp only [fnDen, Option.some.injEq] at q1
          subst q1
          refine opWp_of_enter hF (f := k) (xs := xs ++ c.args.toList.map a.eval ++ ys) hnd ?_ (hH Y ρ hyg hY _ _ _ _ _ _ _ he (denL_append.2 ⟨_, _, denL_append.2 ⟨_, _, q2, d2, rfl⟩, q3, rfl⟩) hr hf.glob hfr _ hK)
          simp only [execOp, ho, resolve, hcal, q4, Deferred.ofValue]
          show (callFunc k (xs.toArray ++ c.args.map a.eval ++ ys.toArray)).run P w = _
          rw [callFunc_run_congr]
          simp
        · rename_i l' hy
          rw [hy] at d1
          obtain ⟨fn, xs, ys, q1, q2, q3, q4⟩ := den_func.1 d1
          obtain ⟨fy, e3, e4⟩ := opt_some.1 he
          obtain ⟨r, hρ, hyr⟩ := hY l' fy e3
          simp only [fnDen, hρ, Option.map_some, Option.some.injEq] at q1
          subst q1
          rw [denL_nil.1 q2, denL_nil.1 q3] at q4
          refine opWp_of_yield hF (l := r.block) (xs := c.args.toList.map a.eval) hnd ?_ (hyr ρ (Env.le_refl _) _ _ _ _ _ _ e4 d2 hr hf.glob hfr _ hK)
          simp only [execOp, ho, resolve, hcal, q4, Deferred.ofValue]
          show (Instr.yield r.block (#[] ++ c.args.map a.eval)).run P w = _
          rw [show (#[] ++ c.args.map a.eval) = (c.args.toList.map a.eval).toArray from by apply Array.ext'; simp]
        · cases he
      rw [hcal] at hc'
      dsimp only at hc'
      unfold compCall at hc'
      rw [hcal] at hc'
      cases y with
      | func f =>
        dsimp only at hc'
        obtain ⟨l, e1, e2⟩ := opt_some.1 hc'
        injection e2 with e2
        subst e2
        have d2 := opds_den hf e1
        rcases callOf_cases P f l with hco | hco
        rotate_left
        · rw [evOper_noCall hco] at he
          refine opWp_of_step hF (step_op hf hr ?_ hfr he) hnd hK
          unfold compOp
          rw [ho]
          show compCall P c = _
          unfold compCall
          rw [hcal]
          dsimp only
          rw [e1]
          rfl
        rw [hco] at he
        refine opWp_of_enter hF (f := f) (xs := c.args.toList.map a.eval) hnd ?_ (hH Y ρ hyg hY _ _ _ _ _ _ _ he d2 hr hf.glob hfr _ hK)
        simp only [execOp, ho, resolve, hcal]
        show (callFunc f (#[] ++ c.args.map a.eval ++ #[])).run P w = _
        rw [callFunc_run_congr]
        simp
      | _ =>
        dsimp only at hc'
        obtain ⟨y', e1, e2⟩ := opt_some.1 hc'
        obtain ⟨l, e3, e4⟩ := opt_some.1 e2
        injection e4 with e4
        subst e4
        exact hv (fun e => by rw [e1] at e; cases e) y' e1 l e3 he

/-- a call of numbers alone, in a heap of its own -/
theorem op_pcall (hF : WideF F) {m : Nat} {H : CallH} (hH : HSound P H) {Y : YH} (hf : FRel n ρ g a) (hr : HRel ρ h w) {o : Oper} {f : FuncId} {args : List Opd} (hc : compOp2 P o = some (.call f args))
    (he : evOper Y H (.pcall f args) g h = some (v, h')) {K : Act → World → Prop} {Q : Exit → Act → World → Prop} (hK : Next' ρ h w v h' o.dst a K) : o.wpIn F m P a w K Q := by
  have hno : ∀ x : Option AOp, onlyNoCall x = some (.call f args) → False := fun x e => by
    have := (onlyNoCall_some e).2
    cases this
  unfold compOp2 at hc
  split at hc
  · rename_i c ho
    split at hc
    · rename_i y hcal
      unfold compCall at hc
      rw [hcal] at hc
      have hnd : ∀ c, o.op ≠ .defer c := fun c e => by rw [ho] at e; cases e
      cases y with
      | func f' =>
        dsimp only at hc
        obtain ⟨l, e1, e2⟩ := opt_some.1 hc
        injection e2 with e2
        obtain ⟨e2, e3⟩ := callOf_call e2
        subst e2 e3
        have d2 := opds_den hf e1
        simp only [evOper] at he
        split at he
        · rename_i hflat
          obtain ⟨⟨u, h1⟩, q1, q2⟩ := opt_some.1 he
          dsimp only at q2
          split at q2
          · rename_i hfu
            injection q2 with q2
            injection q2 with q2 q3
            subst q2 q3
            let ρ0 : Env := fun i => if i < 32 then ρ i else none
            have hg : GlobOk ρ0 := fun i hi => by
              obtain ⟨r, r1, r2⟩ := hf.glob i hi
              exact ⟨r, (if_pos hi).trans r1, r2⟩
            have he0 : HRel ρ0 { next := 32, floor := 32, marks := [], tr := .nil } w := by
              refine ⟨fun id o ho => ?_, fun i j oi oj ri rj hi => ?_, fun id o ho => ?_⟩
              · rw [AH.get, HT.get_nil] at ho; cases ho
              · rw [AH.get, HT.get_nil] at hi; cases hi
              · rw [AH.get, HT.get_nil] at ho; cases ho
            refine opWp_of_enter hF (f := f') (xs := c.args.toList.map a.eval) hnd ?_ (hH _ ρ0 (fun id fy args h v h' e => by cases e) (fun id fy e => by cases e) _ _ _ _ _ _ _ q1 (flat_denL hflat d2) he0 hg (fun id h1 _ => if_neg (Nat.not_lt.2 h1)) _ fun x w' ρ' hx ht => ?_)
            · simp only [execOp, ho, resolve, hcal]
              show (callFunc f' (#[] ++ c.args.map a.eval ++ #[])).run P w = _
              rw [callFunc_run_congr]
              simp
            · refine hK x w' ρ (flat_den hfu hx) (Trans.grown hr ht.size (fun b hb => ht.keep b hb ?_) ht.alike)
              rintro ⟨id, o, r, h1, _⟩
              rw [AH.get, HT.get_nil] at h1
              cases h1
          · cases q2
        · cases he
      | _ =>
        dsimp only at hc
        obtain ⟨y', e1, e2⟩ := opt_some.1 hc
        obtain ⟨l, e3, e4⟩ := opt_some.1 e2
        cases e4
    · exact absurd hc (hno _)
  · exact absurd hc (hno _)
end
end Go.Am

/- Regions in the order of the text. -/
namespace Go.Am

def HGrow (H : CallH) : Prop := ∀ Y, YGrow Y → ∀ f args h v h', H Y f args h = some (v, h') → Grow h h'

section
variable {P : Program} {F : Fence} {n : Nat} {ρ : Env} {g g' : RT} {a : Act} {h h' : AH} {w : World} {v : AV}

theorem evOper_grow {Y : YH} {H : CallH} (hy : YGrow Y) (hh : HGrow H) {ao : AOp} (he : evOper Y H ao g h = some (v, h')) : Grow h h' := by
  by_cases hn : noCall ao = true
  · rw [evOper_noCall hn] at he
    exact evOp_grow he
  · cases ao <;> first
      | exact absurd rfl hn
      | skip
    case call f l => exact hh Y hy _ _ _ _ _ he
    case pcall f l =>
      simp only [evOper] at he
      split at he
      · obtain ⟨⟨u, h1⟩, e1, e2⟩ := opt_some.1 he
        dsimp only at e2
        split at e2
        · injection e2 with e2
          injection e2 with _ e2
          subst e2
          exact .refl _
        · cases e2
      · cases he
    case callv f l =>
      simp only [evOper] at he
      split at he
      · exact hh Y hy _ _ _ _ _ he
      · obtain ⟨fy, e1, e2⟩ := opt_some.1 he
        exact hy _ _ _ _ _ _ e1 e2
      · cases he

/-- an operation's guard, by registers -/
def GuardOf (ops : Array Oper) (o : Oper) (gd : Option (Nat × Bool)) : Prop :=
  (o.guard = none ∧ gd = none) ∨ ∃ j b d, o.guard = some (j, b) ∧ (ops[j]?).bind (·.dst) = some d ∧ gd = some (d, b)

theorem compOper_cases (P : Program) (n : Nat) (ops : Array Oper) (o : Oper) : compOper P n ops o = { dst := none, op := .bad 1, guard := none } ∨
    ∃ gd, GuardOf ops o gd ∧ compOper P n ops o = { dst := compDst n o.dst, op := (compOp2 P o).getD (.bad 0), guard := gd } := by
  unfold compOper
  cases hg : o.guard with
  | none => exact .inr ⟨none, .inl ⟨hg, rfl⟩, rfl⟩
  | some p =>
    obtain ⟨j, b⟩ := p
    cases hd : (ops[j]?).bind (·.dst) with
    | none =>
      left
      simp only [hd, opt]
    | some d =>
      refine .inr ⟨some (d, b), .inr ⟨j, b, d, hg, hd, rfl⟩, ?_⟩
      simp only [hd, opt]

/-- is an operation wanted? -/
theorem wants_eq (hf : FRel n ρ g a) {ops : Array Oper} {o : Oper} {gd : Option (Nat × Bool)} (hg : GuardOf ops o gd) : Region.wanted o (yielded ops a.tmps) = wants g gd := by
  unfold Region.wanted
  rcases hg with ⟨h1, rfl⟩ | ⟨j, b, d, h1, hd, rfl⟩
  · rw [h1]; rfl
  · rw [h1]
    have hr := hf.reg d
    simp only [opt, wants, yielded, hd, Option.bind_some]
    cases hx : g.geti d <;> rw [hx] at hr
    case bool c =>
      simp only [AV.den, Option.some.injEq] at hr
      cases ht : a.tmps[d]? with
      | none => simp [Array.getD_eq_getD_getElem?, ht, Go.undef] at hr
      | some x =>
        simp [Array.getD_eq_getD_getElem?, ht] at hr
        subst hr
        simp
    all_goals (
      have : ∀ c, a.tmps[d]? ≠ some (.bool c) := fun c e => by
        rw [Array.getD_eq_getD_getElem?, e] at hr
        simp only [Option.getD_some] at hr
        first
          | (simp [AV.den] at hr; done)
          | (obtain ⟨_, _, q⟩ := den_ptr.1 hr; cases q)
          | (obtain ⟨_, _, q⟩ := den_slice.1 hr; cases q)
          | (obtain ⟨_, _, q⟩ := den_map.1 hr; cases q)
          | (obtain ⟨_, _, _, _, _, _, q⟩ := den_func.1 hr; cases q)
          | (obtain ⟨_, _, q⟩ := den_agg.1 hr; cases q)
          | (obtain ⟨_, _, q⟩ := den_tuple.1 hr; cases q)
      split
      · rename_i c e
        exact absurd e (this c)
      · rfl)

/-- one operation of a region -/
def evOne (Y : YH) (H : CallH) (o : AOper) (s : St) : Option St :=
  if wants s.1 o.guard then opt (evOper Y H o.op s.1 s.2) fun (v, h) => some (setDst s.1 o.dst v, h) else some (setDst s.1 o.dst undef, s.2)

theorem evOps_cons (Y : YH) (H : CallH) (o : AOper) (l : List AOper) (s : St) : evOps Y H (o :: l) s = opt (evOne Y H o s) (evOps Y H l) := by
  obtain ⟨g, h⟩ := s
  unfold evOne
  simp only [evOps]
  split
  · cases evOper Y H o.op g h with
    | none => rfl
    | some p => rfl
  · rfl

theorem evOne_grow {Y : YH} {H : CallH} (hy : YGrow Y) (hh : HGrow H) {o : AOper} {s s' : St} (he : evOne Y H o s = some s') : Grow s.2 s'.2 := by
  unfold evOne at he
  split at he
  · obtain ⟨⟨v, h1⟩, e1, e2⟩ := opt_some.1 he
    injection e2 with e2
    subst e2
    exact evOper_grow hy hh e1
  · injection he with he
    subst he
    exact .refl _
theorem evOps_grow {Y : YH} {H : CallH} (hy : YGrow Y) (hh : HGrow H) : ∀ {l : List AOper} {s s' : St}, evOps Y H l s = some s' → Grow s.2 s'.2
  | [], s, s', he => by injection he with he; subst he; exact .refl _
  | o :: l, s, s', he => by
    rw [evOps_cons] at he
    obtain ⟨s1, e1, e2⟩ := opt_some.1 he
    exact (evOne_grow hy hh e1).trans (evOps_grow hy hh e2)

theorem put_defers' (a : Act) (d : Option Tmp) (x : Value) : (a.put d x).defers = a.defers := by cases d <;> rfl

theorem one_sound (hF : WideF F) {m : Nat} {H : CallH} (hH : HSound P H) {Y : YH} (hy : YGrow Y) (hY : YSound P ρ Y) (hf : FRel n ρ g a) (hr : HRel ρ h w) {ops : Array Oper} {o : Oper} (hfr : Fresh ρ h h')
    (he : evOne Y H (compOper P n ops o) (g, h) = some (g', h')) {K : Act → World → Prop} {Q : Exit → Act → World → Prop}
    (hK : ∀ a' w' ρ', FRel n ρ' g' a' → Trans ρ h w ρ' h' w' → a'.defers = a.defers → K a' w') :
    if Region.wanted o (yielded ops a.tmps) then o.wpIn F m P a w K Q else (∀ f, o.about P w a.eval = some f → F.fn f) ∧ K (a.put o.dst Go.undef) w := by
  rcases compOper_cases P n ops o with hb | ⟨gd, hgd, hb⟩
  · rw [hb] at he
    cases he
  · rw [hb] at he
    rw [wants_eq hf hgd]
    unfold evOne at he
    dsimp only at he
    split at he
    · rename_i hw
      rw [if_pos hw]
      obtain ⟨⟨v, h1⟩, e1, e2⟩ := opt_some.1 he
      injection e2 with e2
      injection e2 with e2 e3
      subst e2 e3
      cases hq : compOp2 P o with
      | none => rw [hq] at e1; cases e1
      | some ao =>
        rw [hq] at e1
        exact op_call hF hH hy hY hf hr hq hfr e1 fun x w' ρ' hx ht => hK _ _ ρ' ((hf.mono ht.le).put hx o.dst) ht (put_defers' _ _ _)
    · rename_i hw
      rw [if_neg hw]
      injection he with he
      injection he with e2 e3
      subst e2 e3
      exact ⟨fun f _ => hF.1 f, hK _ _ ρ (hf.put den_undef o.dst) (.refl hr) (put_defers' _ _ _)⟩

/-- a list of operations in its order -/
theorem ops_sound (hF : WideF F) {m : Nat} {H : CallH} (hH : HSound P H) (hh : HGrow H) {Y : YH} (hy : YGrow Y) {ops : Array Oper} {Q : Exit → Act → World → Prop} : ∀ (l : List Nat) (L : List AOper) {ρ : Env} {g : RT} {a : Act} {h : AH} {w : World},
    L = l.filterMap (fun i => (ops[i]?).map (compOper P n ops)) → YSound P ρ Y → FRel n ρ g a → HRel ρ h w → Fresh ρ h h' → evOps Y H L (g, h) = some (g', h') →
    (∀ a' w' ρ', FRel n ρ' g' a' → Trans ρ h w ρ' h' w' → a'.defers = a.defers → Q .normal a' w') → wpOpsIn F m P ops Q l a w
  | [], L, ρ, g, a, h, w, hL, hY, hf, hr, hfr, he, hQ => by
    subst hL
    injection he with he
    injection he with e1 e2
    subst e1 e2
    exact hQ _ _ ρ hf (.refl hr) rfl
  | i :: l, L, ρ, g, a, h, w, hL, hY, hf, hr, hfr, he, hQ => by
    subst hL
    unfold wpOpsIn
    cases ho : ops[i]? with
    | none =>
      rw [List.filterMap_cons, ho] at he
      exact ops_sound hF hH hh hy l _ rfl hY hf hr hfr he hQ
    | some o =>
      rw [List.filterMap_cons, ho] at he
      simp only [Option.map_some] at he
      rw [evOps_cons] at he
      obtain ⟨⟨g1, h1⟩, e1, e2⟩ := opt_some.1 he
      have gr1 := evOne_grow hy hh e1
      have gr2 := evOps_grow hy hh e2
      exact one_sound hF hH hy hY hf hr (fun id p q => hfr id p (Nat.lt_of_lt_of_le q gr2.1)) e1 fun a' w' ρ' hf' ht hd =>
        ops_sound hF hH hh hy l _ rfl (hY.mono ht.le) hf' ht.rel (fun id p q => by
          rw [ht.new id (fun r => Nat.not_lt.2 p r.2)]
          exact hfr id (Nat.le_trans gr1.1 p) q) e2 fun a'' w'' ρ'' hf'' ht' hd' => hQ _ _ ρ'' hf'' (ht.trans ht') (hd'.trans hd)
end
end Go.Am
