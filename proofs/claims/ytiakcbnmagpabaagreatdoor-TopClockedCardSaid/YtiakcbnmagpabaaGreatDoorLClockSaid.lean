/- The statement of the clock's law and its card. -/
import Derived.Test.YtiakcbnmagpabaaGreatDoorLTabs
import Derived.Test.YtiakcbnmagpabaaGreatDoorLClockTop
import Derived.WalkKit
import Derived.ProofKit
import Derived.OpenShut
import Derived.Deep.DeepHandedRow
namespace Go.Proofs.YtiakcbnmagpabaaGreatDoor.topClocked
open Go.Am Go.ChangeShapes Go.WideShapes Go.ChangeAt Go.RowKit
set_option maxRecDepth 100000

/-- the call answers true and changes nothing that was there -/
theorem calls7 (W : World) (hT : ∀ p, p ∈ tl0 → TabIn W p) (a l m : Nat) (ha : a < 4294967296) (hl : l < 4294967296) (hm : m < 4294967296) (v : Value)
    (hv : v = .slice none 0 0 ∨ ∃ (b off len cap : Nat) (q : Nat → Nat × Nat × Nat × Nat), v = .slice (some ⟨b, off, none⟩) len cap ∧ len ≤ cap ∧ (∀ i, i < cap → (q i).2.2.2 < 65536) ∧ ∀ i x, (vals4 q cap)[i]? = some x → W.cell? ⟨b, off + i, none⟩ = some x) :
    Calls Tryz.prog 7 #[.int .u32 (Int.ofNat a), .int .u32 (Int.ofNat l), .int .u32 (Int.ofNat m), v] W fun e w' => e = .returned (.bool true) ∧ Still W w' := by
  have go : ∀ (sl sl' : AV) (cs : List AV) (N : Nat) (ρl : List (Nat × Row)), SlOk sl sl' N → pureL cs = true → sl.den (envOf ρl) = some v → (∀ id, 34 ≤ id → envOf ρl id = none) → RoIn (envOf ρl) W (33, .row 1 cs .ro) →
      (∀ i, i < min N 60 → (∃ c, sl' = .slice 33 0 (min N 60) (.fixed c)) ∧ ∃ wh A B N, (cs.drop (i * 4)).take 4 = [.int .u8 (Int.ofNat wh), .int .u8 (Int.ofNat A), .int .u8 (Int.ofNat B), .int .u16 (Int.ofNat N)] ∧ N < 65536) →
      Calls Tryz.prog 7 #[.int .u32 (Int.ofNat a), .int .u32 (Int.ofNat l), .int .u32 (Int.ofNat m), v] W fun e w' => e = .returned (.bool true) ∧ Still W w' := by
    intro sl sl' cs N ρl ho hcs hd hfr h33 hrow
    have hro : ∀ p, p ∈ LH0 cs → p.1 < 34 ∧ RoIn (envOf ρl) W p := fun p hp => by
      rcases List.mem_append.1 hp with h | h
      · exact ⟨Nat.lt_of_lt_of_le (tl0_lt p h) (by decide), (hT p h).ro (tl0_lt p h) ρl⟩
      · simp only [List.mem_cons, List.mem_nil_iff, or_false] at h
        subst h
        exact ⟨Nat.le_of_ble_eq_true rfl, h33⟩
    have hden : denL (envOf ρl) [.int .u32 (Int.ofNat a), .int .u32 (Int.ofNat l), .int .u32 (Int.ofNat m), sl] = some [.int .u32 (Int.ofNat a), .int .u32 (Int.ofNat l), .int .u32 (Int.ofNat m), v] := by
      simp only [denL, AV.den, hd]
    exact calls_of_wpA (h := ⟨34, 32, [], mkT (LH0 cs)⟩) comp_7 (Nat.le_of_ble_eq_true rfl) hden (hrel_ro hro) (envOf_glob _) rfl hfr (ro_all hro) fun act A => walk7 sl sl' cs a l m N ha hl hm ho hcs hrow A
  have h0 : ∀ ρl : List (Nat × Row), envOf ρl 33 = some (row0 0 0) → RoIn (envOf ρl) W (33, .row 1 g0 .ro) := fun ρl hρ => by
    obtain ⟨cs, xs, h1, h2, h3, h4⟩ := hT (0, .row 1 g0 .ro) (List.mem_cons_self ..)
    simp only [AO.row.injEq, true_and, and_true] at h1
    subst h1
    exact ⟨row0 0 0, g0, rfl, hρ, row_of_cells rfl rfl (h3 _) h2 h4⟩
  have fr : ∀ ρl : List (Nat × Row), (∀ p, p ∈ ρl → p.1 < 34) → ∀ id, 34 ≤ id → envOf ρl id = none := fun ρl hρ id hid => by
    unfold envOf
    rw [if_neg (by omega), List.find?_eq_none.2]
    · rfl
    · intro p hp q
      have := hρ p hp
      have := beq_iff_eq.1 q
      omega
  rcases hv with rfl | ⟨b, off, len, cap, q, rfl, hle, hq, hc⟩
  · exact go .nilslice .nilslice g0 0 [(33, row0 0 0)] sl_nil (by kernel_rfl) rfl (fr _ (by simp)) (h0 _ rfl) (fun i hi => absurd hi (by omega))
  · by_cases h : cap = 0
    · subst h
      obtain rfl : len = 0 := by omega
      exact go (.slice 32 0 0 (.fixed 0)) _ g0 0 [(33, row0 0 0), (32, row0 b off)] (sl_fixed 32 0 0 (by decide) (by decide)) (by kernel_rfl) rfl (fr _ (by simp)) (h0 _ rfl) (fun i hi => absurd hi (by omega))
    · refine go (.slice 33 0 len (.fixed cap)) _ (cells4 q cap) len [(33, row0 b off)] (sl_fixed 33 len cap (by decide) hle) (cells4_pure q cap) rfl (fr _ (by simp)) ⟨row0 b off, _, rfl, rfl, row_of_cells rfl rfl (cells4_den _ q cap) ?_ hc⟩ fun i hi => ⟨⟨cap, rfl⟩, _, _, _, _, cells4_row q cap i (by omega), hq i (by omega)⟩
      intro e
      have := congrArg List.length e
      unfold cells4 at this
      rw [List.length_map, List.length_range] at this
      simp only [List.length_nil] at this
      omega

/-- what the call gives, for every argument and every world that holds the tables -/
theorem contract (H : Type) (enc : TypeId × Value → H) (W : World) (base : Nat) (args : Array Value) (ds gs : List (DataW H)) (before : List MemPlace)
    (hval : ∀ (j : Nat) t v, Tryz.f7.params[j]? = some t → args[j]? = some v → Value.okWide Tryz.prog W .any base t v)
    (hW : DataW.Whole enc Tryz.prog Tryz.f7.params.toList Rows.topClockedSpec.vars false W args.toList ds gs before) (hL : laidMetH Tryz.prog Rows.topClockedRow.laid W) :
    Calls Tryz.prog 7 args W fun e W' => ∃ v, e = .returned v ∧ Rows.topClockedSpec.post enc Tryz.prog Tryz.f7 false true false false W args v W' := by
  have hT := tabs7 hL
  have hW' := hW
  obtain ⟨p, q, hA0, hV, rfl, hfz, hnd⟩ := hW
  have hA : DataW.TrodAll enc Tryz.prog W 0 (fun _ => true) true Tryz.f7.params.toList args.toList ds p := hA0
  rw [Tryz.params7] at hA hval
  obtain ⟨v0, vs0, d0, ds0, p0, q0, hargs, rfl, rfl, t0, r0⟩ := trodAll_cons hA
  obtain ⟨v1, vs1, d1, ds1, p1, q1, rfl, rfl, rfl, t1, r1⟩ := trodAll_cons r0
  obtain ⟨v2, vs2, d2, ds2, p2, q2, rfl, rfl, rfl, t2, r2⟩ := trodAll_cons r1
  obtain ⟨v3, vs3, d3, ds3, p3, q3, rfl, rfl, rfl, t3, r3⟩ := trodAll_cons r2
  obtain ⟨rfl, rfl, rfl⟩ := trodAll_nil r3
  obtain rfl : args = #[v0, v1, v2, v3] := by cases args; simp_all
  obtain ⟨rfl, rfl⟩ := trodVars_none hV
  obtain ⟨a, rfl, ha⟩ := open_nat Tryz.underlying39 rfl (hval 0 39 v0 rfl rfl) t0
  obtain ⟨l, rfl, hl⟩ := open_nat Tryz.underlying39 rfl (hval 1 39 v1 rfl rfl) t1
  obtain ⟨m, rfl, hm⟩ := open_nat Tryz.underlying39 rfl (hval 2 39 v2 rfl rfl) t2
  obtain ⟨f0, f1, f2, f3, he, o0, o1, o2, o3, y0, y1, y2, y3⟩ := under54
  have hs := stows Tryz.underlying48 he (by kernel_rfl) o0 o1 o2 o3 y0 y1 y2 y3 Tryz.underlying5 Tryz.underlying23 (by kernel_rfl) (by kernel_rfl) (hval 3 48 v3 rfl rfl) t3
  refine (calls7 W hT a l m ha hl hm v3 hs).mono fun e W' ⟨he, hg⟩ => ?_
  subst he
  exact ⟨_, rfl, post_still hg sized (by kernel_rfl) hW' rfl (by kernel_rfl) Tryz.underlying4 rfl rfl rfl⟩
end Go.Proofs.YtiakcbnmagpabaaGreatDoor.topClocked
