/- What a law is handed, in the abstract machine: the tables, slices of small structs. -/
import Derived.Test.YtiakcbnmagpabaaGreatDoorLPost
import Derived.Deep.Slices
import Derived.Lib.LaidTab
import Derived.Test.YtiakcbnmagpabaaGreatDoorA7
namespace Go.Am
open Go.ChangeShapes Go.WideShapes Go.RowKit

theorem denL_map {α : Type} {ρ : Env} {f : α → AV} {g : α → Value} (h : ∀ a, (f a).den ρ = some (g a)) : ∀ l : List α, denL ρ (l.map f) = some (l.map g)
  | [] => rfl
  | a :: l => by
    simp only [List.map_cons, denL, h a, denL_map h l]

def row0 (b o : Nat) : Row := { block := b, off := o, cap := 0, loop := default }
def envOf (l : List (Nat × Row)) : Env := fun id => if id < 32 then some (row0 id 0) else (l.find? fun p => p.1 == id).map (·.2)
theorem envOf_glob (l : List (Nat × Row)) : GlobOk (envOf l) := fun g hg => ⟨row0 g 0, if_pos hg, rfl, rfl⟩

/-- an object that is only read -/
def RoIn (ρ : Env) (w : World) (p : Nat × AO) : Prop := ∃ r cs, p.2 = .row 1 cs .ro ∧ ρ p.1 = some r ∧ RowRel ρ 1 cs .ro r w
theorem hrel_ro {ρ : Env} {w : World} {l : List (Nat × AO)} {nx fl : Nat} (h : ∀ p, p ∈ l → p.1 < nx ∧ RoIn ρ w p) : HRel ρ ⟨nx, fl, [], mkT l⟩ w := by
  refine ⟨fun id o ho => ?_, fun i j oi oj ri rj hi hj hne hri hrj hwi => ?_, fun id o ho => (h _ (mkT_mem ho)).1⟩
  · obtain ⟨_, r, cs, h1, h2, h3⟩ := h _ (mkT_mem ho)
    simp only at h1 h2
    subst h1
    exact ⟨r, h2, h3⟩
  · obtain ⟨_, r, cs, h1, _⟩ := h _ (mkT_mem hi)
    simp only at h1
    subst h1
    have := hwi.2
    cases this
theorem ro_all {l : List (Nat × AO)} {nx fl : Nat} {ρ : Env} {w : World} (h : ∀ p, p ∈ l → p.1 < nx ∧ RoIn ρ w p) : ∀ id o, (⟨nx, fl, [], mkT l⟩ : AH).get id = some o → o.isRo = true := by
  intro id o ho
  obtain ⟨_, r, cs, h1, _⟩ := h _ (mkT_mem ho)
  simp only at h1
  subst h1
  rfl

/-! ### the tables -/
/-- the table's cells -/
def TabIn (w : World) (p : Nat × AO) : Prop := ∃ cs xs, p.2 = .row 1 cs .ro ∧ cs ≠ [] ∧ (∀ ρ, denL ρ cs = some xs) ∧ ∀ i x, xs[i]? = some x → w.cell? ⟨p.1, 0 + i, none⟩ = some x
theorem TabIn.ro {w : World} {p : Nat × AO} (h : TabIn w p) (hp : p.1 < 32) (l : List (Nat × Row)) : RoIn (envOf l) w p := by
  obtain ⟨cs, xs, h1, h2, h3, h4⟩ := h
  exact ⟨row0 p.1 0, cs, h1, if_pos hp, row_of_cells rfl rfl (h3 _) h2 h4⟩
def zOf : AV → Int
  | .int _ n => n
  | _ => 0
theorem tabIn_of {P : Program} {w : World} {name : String} {g t e n : Nat} {k : IntKind} {cs : List AV} {rest : List (String × DataW Unit)} {ps : List MemPlace} (zs : List Int) (d : DataW Unit) (h : DataW.LaidVars P w ((name, d) :: rest) ps) (hd : d = Lib.tabData k zs) (hcs : cs = zs.map (AV.int k)) (hne : zs.isEmpty = false)
    (hg : P.globalNamed name = some g) (hty : (P.globals[g]?).map (·.type) = some t) (ht : P.underlying t = some (.array n e)) (he : P.underlying e = some (.int k)) (hce : P.cellsOf e = 1) (hct : P.cellsOf t = n) :
    TabIn w (g, .row 1 cs .ro) ∧ ∃ q, DataW.LaidVars P w rest q := by
  obtain ⟨g', t', c', fuel, p, q, hg', ht', hvar, hd', hr, _⟩ := h
  refine ⟨?_, q, hr⟩
  subst hd
  obtain rfl := Option.some.inj (hg.symm.trans hg')
  obtain rfl := Option.some.inj (hty.symm.trans ht')
  have hT : Lib.TabIs P w name k zs := by
    unfold Lib.TabIs
    rw [hvar, ← Lib.cells_of_tab ht he hce hct hd']
  refine ⟨cs, zs.map (Value.int k), rfl, ?_, fun ρ => ?_, fun i x hx => ?_⟩
  · subst hcs
    cases zs with
    | nil => cases hne
    | cons _ _ => exact fun q => by cases q
  · subst hcs
    exact denL_map (fun _ => rfl) zs
  · rw [List.getElem?_map] at hx
    obtain ⟨z, hz, rfl⟩ := Option.map_eq_some_iff.1 hx
    have hi : i < zs.length := (List.getElem?_eq_some_iff.1 hz).1
    have := hT.cell hg i hi
    rw [Nat.zero_add, this]
    simp [List.getD, hz]

/-! ### slices of four small numbers -/
section
variable {H : Type} {enc : TypeId × Value → H} {P : Program} {w : World}
def q4 (q : Nat × Nat × Nat × Nat) : Nat → AV
  | 0 => .int .u8 (Int.ofNat q.1)
  | 1 => .int .u8 (Int.ofNat q.2.1)
  | 2 => .int .u8 (Int.ofNat q.2.2.1)
  | _ => .int .u16 (Int.ofNat q.2.2.2)
def v4 (q : Nat × Nat × Nat × Nat) : Nat → Value
  | 0 => .int .u8 (Int.ofNat q.1)
  | 1 => .int .u8 (Int.ofNat q.2.1)
  | 2 => .int .u8 (Int.ofNat q.2.2.1)
  | _ => .int .u16 (Int.ofNat q.2.2.2)
def cells4 (q : Nat → Nat × Nat × Nat × Nat) (n : Nat) : List AV := (List.range (n * 4)).map fun k => q4 (q (k / 4)) (k % 4)
def vals4 (q : Nat → Nat × Nat × Nat × Nat) (n : Nat) : List Value := (List.range (n * 4)).map fun k => v4 (q (k / 4)) (k % 4)
theorem q4_den (ρ : Env) (q : Nat × Nat × Nat × Nat) : ∀ i, (q4 q i).den ρ = some (v4 q i)
  | 0 | 1 | 2 => rfl
  | _ + 3 => rfl
theorem cells4_den (ρ : Env) (q : Nat → Nat × Nat × Nat × Nat) (n : Nat) : denL ρ (cells4 q n) = some (vals4 q n) := denL_map (fun _ => q4_den _ _ _) _
theorem cells4_pure (q : Nat → Nat × Nat × Nat × Nat) (n : Nat) : pureL (cells4 q n) = true := by
  unfold cells4
  generalize List.range (n * 4) = l
  induction l with
  | nil => rfl
  | cons a l ih =>
    simp only [List.map_cons, pureL, ih, Bool.and_true]
    unfold q4
    split <;> rfl
theorem cells4_row (q : Nat → Nat × Nat × Nat × Nat) (n i : Nat) (h : i < n) : ((cells4 q n).drop (i * 4)).take 4 = [.int .u8 (Int.ofNat (q i).1), .int .u8 (Int.ofNat (q i).2.1), .int .u8 (Int.ofNat (q i).2.2.1), .int .u16 (Int.ofNat (q i).2.2.2)] := by
  have key : ∀ j, j < 4 → (cells4 q n)[i * 4 + j]? = some (q4 (q i) j) := fun j hj => by
    unfold cells4
    rw [List.getElem?_map, List.getElem?_range (by omega), Option.map_some]
    rw [show (i * 4 + j) / 4 = i by omega, show (i * 4 + j) % 4 = j by omega]
  apply List.ext_getElem?
  intro j
  rw [List.getElem?_take]
  split
  · rename_i hj
    rw [List.getElem?_drop, key j hj]
    match j, hj with
    | 0, _ => rfl
    | 1, _ => rfl
    | 2, _ => rfl
    | 3, _ => rfl
  · rename_i hj
    rw [List.getElem?_eq_none]
    simp only [List.length_cons, List.length_nil]
    omega

theorem wf_nat {k : IntKind} {n : Int} (hk : k.signed = false) (h : (Lit.int k n).wf = true) : ∃ a : Nat, n = Int.ofNat a ∧ a < 2 ^ k.bits := by
  simp only [Lit.wf, Bool.and_eq_true, decide_eq_true_eq, IntKind.min, IntKind.max, hk] at h
  obtain ⟨h1, h2⟩ := h
  simp only [Bool.false_eq_true, if_false] at h1 h2
  obtain ⟨a, rfl⟩ := Int.eq_ofNat_of_zero_le h1
  refine ⟨a, rfl, ?_⟩
  have : ((a : Nat) : Int) < ((2 ^ k.bits : Nat) : Int) := by
    rw [Int.natCast_pow]
    exact Int.lt_of_le_sub_one h2
  exact Int.ofNat_lt.1 this
theorem int_of_trod {base : Nat} {sp : Nat → Bool} {held : Bool} {fuel : Nat} {t : TypeId} {k : IntKind} {v : Value} {x : DataW H × List MemPlace} (ht : P.underlying t = some (.int k)) (hk : k.signed = false) (h : DataW.trod enc P w base sp held fuel t [v] = some x) :
    ∃ a : Nat, v = .int k (Int.ofNat a) ∧ a < 2 ^ k.bits := by
  obtain ⟨n, h1, h2, hw⟩ := DataW.trod_int ht h
  simp only [List.cons.injEq, and_true] at h1
  subst h1
  obtain ⟨a, rfl, ha⟩ := wf_nat hk hw
  exact ⟨a, rfl, ha⟩
theorem open_nat {r : Reach} {b0 base : Nat} {sp : Nat → Bool} {held : Bool} {t : TypeId} {k : IntKind} {v : Value} {d : DataW H} {ps : List MemPlace} (ht : P.underlying t = some (.int k)) (hk : k.signed = false) (hval : Value.okWide P w r b0 t v) (hd : DataW.Trod enc P w base sp held t v d ps) :
    ∃ a : Nat, v = .int k (Int.ofNat a) ∧ a < 2 ^ k.bits := by
  obtain ⟨n, rfl, _, _, hw⟩ := open_int ht hval hd
  obtain ⟨a, rfl, ha⟩ := wf_nat hk hw
  exact ⟨a, rfl, ha⟩

/-- one element -/
theorem four_of_trod {fuel e t8 t16 : TypeId} {f0 f1 f2 f3 : Field} {sp : Nat → Bool} {held : Bool} {cs : List Value} {x : DataW H × List MemPlace} (he : P.underlying e = some (.struct #[f0, f1, f2, f3])) (hc : P.cellsOf e = 4) (o0 : f0.offset = 0) (o1 : f1.offset = 1) (o2 : f2.offset = 2) (o3 : f3.offset = 3)
    (y0 : f0.type = t8) (y1 : f1.type = t8) (y2 : f2.type = t8) (y3 : f3.type = t16) (h8 : P.underlying t8 = some (.int .u8)) (h16 : P.underlying t16 = some (.int .u16)) (c8 : P.cellsOf t8 = 1) (c16 : P.cellsOf t16 = 1)
    (h : DataW.trod enc P w 0 sp held fuel e cs = some x) : ∃ q : Nat × Nat × Nat × Nat, cs = [v4 q 0, v4 q 1, v4 q 2, v4 q 3] ∧ q.2.2.2 < 65536 := by
  obtain ⟨xs, n, _, _, hl, hx, hf⟩ := DataW.trod_struct he h
  rw [hc] at hl
  match cs, hl with
  | [a, b, c, d], _ =>
    have g0 := hf 0 f0 rfl
    have g1 := hf 1 f1 rfl
    have g2 := hf 2 f2 rfl
    have g3 := hf 3 f3 rfl
    match xs, hx with
    | [z0, z1, z2, z3], _ =>
      simp [o0, o1, o2, o3, y0, y1, y2, y3, c8, c16] at g0 g1 g2 g3
      obtain ⟨p0, rfl, _⟩ := int_of_trod h8 rfl g0
      obtain ⟨p1, rfl, _⟩ := int_of_trod h8 rfl g1
      obtain ⟨p2, rfl, _⟩ := int_of_trod h8 rfl g2
      obtain ⟨p3, rfl, hp3⟩ := int_of_trod h16 rfl g3
      exact ⟨(p0, p1, p2, p3), rfl, hp3⟩

/-- the slice: nil, or somewhere -/
theorem stows {r : Reach} {b0 : Nat} {t e t8 t16 : TypeId} {f0 f1 f2 f3 : Field} {v : Value} {d : DataW H} {ps : List MemPlace} {held : Bool} (ht : P.underlying t = some (.slice e)) (he : P.underlying e = some (.struct #[f0, f1, f2, f3])) (hc : P.cellsOf e = 4) (o0 : f0.offset = 0) (o1 : f1.offset = 1) (o2 : f2.offset = 2) (o3 : f3.offset = 3)
    (y0 : f0.type = t8) (y1 : f1.type = t8) (y2 : f2.type = t8) (y3 : f3.type = t16) (h8 : P.underlying t8 = some (.int .u8)) (h16 : P.underlying t16 = some (.int .u16)) (c8 : P.cellsOf t8 = 1) (c16 : P.cellsOf t16 = 1)
    (hval : Value.okWide P w r b0 t v) (hd : DataW.Trod enc P w 0 (fun _ => true) held t v d ps) :
    v = .slice none 0 0 ∨ ∃ (b off len cap : Nat) (q : Nat → Nat × Nat × Nat × Nat), v = .slice (some ⟨b, off, none⟩) len cap ∧ len ≤ cap ∧ (∀ i, i < cap → (q i).2.2.2 < 65536) ∧ ∀ i x, (vals4 q cap)[i]? = some x → w.cell? ⟨b, off + i, none⟩ = some x := by
  obtain ⟨a0, len0, cap0, rfl⟩ := okWide_slice ht hval
  obtain ⟨fuel, hf⟩ := hd
  rcases Deep.open_slice ht hf with ⟨h1, _⟩ | ⟨a, len, cap, m, n, D, Pl, hcs, _, hl, hm, hmm, _, hx⟩
  · left
    simpa [Value.cells] using h1
  · right
    simp [Value.cells] at hcs
    obtain ⟨rfl, rfl, rfl⟩ := hcs
    have hsp : a.spot = none := by
      simp only [Value.okWide, ht, Cell.okWide, Cell.ok, World.has] at hval
      exact hval.2.2.2.1
    obtain ⟨b, off, spot⟩ := a
    simp only at hsp
    subst hsp
    simp only [if_true] at hmm
    subst hmm
    obtain ⟨q, hq⟩ := Deep.choose_lt (α := Nat × Nat × Nat × Nat) (p := fun i q => w.cells? 0 ((⟨b, off, none⟩ : Addr).add (i * 4)) 4 = some [v4 q 0, v4 q 1, v4 q 2, v4 q 3] ∧ q.2.2.2 < 65536) (fun i hi => by
      obtain ⟨cs', h1, h2⟩ := hx i hi
      obtain ⟨q, rfl, hq⟩ := four_of_trod he hc o0 o1 o2 o3 y0 y1 y2 y3 h8 h16 c8 c16 h2
      rw [hc] at h1
      exact ⟨q, h1, hq⟩)
    refine ⟨b, off, _, _, q, rfl, hl, fun i hi => (hq i hi).2, fun i x hi => ?_⟩
    unfold vals4 at hi
    rw [List.getElem?_map] at hi
    obtain ⟨k, hk, rfl⟩ := Option.map_eq_some_iff.1 hi
    obtain ⟨hk1, hk2⟩ := List.getElem?_eq_some_iff.1 hk
    rw [List.getElem_range] at hk2
    subst hk2
    rw [List.length_range] at hk1
    obtain ⟨_, _, hcell⟩ := World.cells?_some (hq (i / 4) (by omega)).1
    have := hcell (i % 4) (by omega)
    rw [add_plain, add_plain] at this
    rw [show off + i = off + i / 4 * 4 + i % 4 by omega, this]
    match hj : i % 4 with
    | 0 => rfl
    | 1 => rfl
    | 2 => rfl
    | 3 => rfl
    | k + 4 => omega
end
end Go.Am
