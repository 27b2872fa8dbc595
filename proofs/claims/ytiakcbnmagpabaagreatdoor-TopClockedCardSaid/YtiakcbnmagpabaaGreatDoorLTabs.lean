/- The tables that the rows list, in the abstract machine. -/
import Derived.Test.YtiakcbnmagpabaaGreatDoorCards
import Derived.Test.YtiakcbnmagpabaaGreatDoorTie
import Derived.Test.YtiakcbnmagpabaaGreatDoorLArgs
import Derived.Test.YtiakcbnmagpabaaGreatDoorAmH
import Derived.KernelRfl
namespace Go.Proofs.YtiakcbnmagpabaaGreatDoor
open Go.Am Go.ChangeShapes Go.WideShapes Go.RowKit
set_option maxRecDepth 100000

def laid7 : List (String × DataW Unit) := [("lighterman/crc.halves", Rows.laid_lighterman_crc_halves), ("lighterman/codes.literals", Rows.laid_lighterman_codes_literals), ("lighterman/codes.matches", Rows.laid_lighterman_codes_matches), ("lighterman/sha.rounds", Rows.laid_lighterman_sha_rounds), ("lighterman/tables.literals", Rows.laid_lighterman_tables_literals), ("lighterman/tables.offsets", Rows.laid_lighterman_tables_offsets), ("lighterman/tables.matches", Rows.laid_lighterman_tables_matches)]

theorem laid7_plain : laid7.filter (fun x => x.2.handleName?.isSome) = [] := by kernel_rfl
theorem tabs7 {W : World} (h : laidMetH Tryz.prog laid7 W) : ∀ p, p ∈ tl0 → TabIn W p := by
  unfold laidMetH at h
  rw [laid7_plain] at h
  obtain ⟨ps, h, _⟩ := h
  obtain ⟨h0, _, h⟩ := tabIn_of (P := Tryz.prog) (g := 0) (t := 196) (e := 39) (n := 16) (k := .u32) (cs := g0) (g0.map zOf) _ h (by kernel_rfl) (by kernel_rfl) (by kernel_rfl) (by kernel_rfl) (by kernel_rfl) (by kernel_rfl) (by kernel_rfl) (by kernel_rfl) (by kernel_rfl)
  obtain ⟨h9, _, h⟩ := tabIn_of (P := Tryz.prog) (g := 9) (t := 339) (e := 3) (n := 20) (k := .i64) (cs := g9) (g9.map zOf) _ h (by kernel_rfl) (by kernel_rfl) (by kernel_rfl) (by kernel_rfl) (by kernel_rfl) (by kernel_rfl) (by kernel_rfl) (by kernel_rfl) (by kernel_rfl)
  obtain ⟨h10, _, h⟩ := tabIn_of (P := Tryz.prog) (g := 10) (t := 340) (e := 3) (n := 21) (k := .i64) (cs := g10) (g10.map zOf) _ h (by kernel_rfl) (by kernel_rfl) (by kernel_rfl) (by kernel_rfl) (by kernel_rfl) (by kernel_rfl) (by kernel_rfl) (by kernel_rfl) (by kernel_rfl)
  obtain ⟨h3, _, h⟩ := tabIn_of (P := Tryz.prog) (g := 3) (t := 199) (e := 39) (n := 64) (k := .u32) (cs := g3) (g3.map zOf) _ h (by kernel_rfl) (by kernel_rfl) (by kernel_rfl) (by kernel_rfl) (by kernel_rfl) (by kernel_rfl) (by kernel_rfl) (by kernel_rfl) (by kernel_rfl)
  obtain ⟨h6, _, h⟩ := tabIn_of (P := Tryz.prog) (g := 6) (t := 312) (e := 3) (n := 36) (k := .i64) (cs := g6) (g6.map zOf) _ h (by kernel_rfl) (by kernel_rfl) (by kernel_rfl) (by kernel_rfl) (by kernel_rfl) (by kernel_rfl) (by kernel_rfl) (by kernel_rfl) (by kernel_rfl)
  obtain ⟨h7, _, h⟩ := tabIn_of (P := Tryz.prog) (g := 7) (t := 313) (e := 3) (n := 29) (k := .i64) (cs := g7) (g7.map zOf) _ h (by kernel_rfl) (by kernel_rfl) (by kernel_rfl) (by kernel_rfl) (by kernel_rfl) (by kernel_rfl) (by kernel_rfl) (by kernel_rfl) (by kernel_rfl)
  obtain ⟨h8, _, h⟩ := tabIn_of (P := Tryz.prog) (g := 8) (t := 314) (e := 3) (n := 53) (k := .i64) (cs := g8) (g8.map zOf) _ h (by kernel_rfl) (by kernel_rfl) (by kernel_rfl) (by kernel_rfl) (by kernel_rfl) (by kernel_rfl) (by kernel_rfl) (by kernel_rfl) (by kernel_rfl)
  intro p hp
  simp only [tl0, List.mem_cons, List.mem_nil_iff, or_false] at hp
  rcases hp with q | q | q | q | q | q | q <;> subst q
  · exact h0
  · exact h3
  · exact h6
  · exact h7
  · exact h8
  · exact h9
  · exact h10

/-- the types that a reading may meet -/
theorem sized : typesOk Tryz.prog = true := by kernel_rfl

theorem under54 : ∃ f0 f1 f2 f3, Tryz.prog.underlying 54 = some (.struct #[f0, f1, f2, f3]) ∧ f0.offset = 0 ∧ f1.offset = 1 ∧ f2.offset = 2 ∧ f3.offset = 3 ∧ f0.type = 5 ∧ f1.type = 5 ∧ f2.type = 5 ∧ f3.type = 23 :=
  ⟨_, _, _, _, Tryz.underlying54, by kernel_rfl, by kernel_rfl, by kernel_rfl, by kernel_rfl, by kernel_rfl, by kernel_rfl, by kernel_rfl, by kernel_rfl⟩
end Go.Proofs.YtiakcbnmagpabaaGreatDoor
