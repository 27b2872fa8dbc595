/-
  DERIVED. GIVEN WITH THE SEED: THE PROGRAM's TIES (one call each: nine closed facts by the kernel) AND EACH ROW's TIE, after the 31st guide's Derived/Test/Toyas{Tie, Card}.lean. No idea stands in it: it is a product of the set-up. Laid BY PROGRAM, IN A SANDBOX (cutbox-door.mjs). By AI agents, Wed Nov 11 2026. No macro, syntax, notation, axiom, sorry.
-/
import Derived.Test.YtiakcbnmagpabaaGreatDoorRows
import Derived.LaidByTextLater
import Derived.SevenTiedAt
import Derived.LaidSub
import Derived.LaidOnce
namespace Go.Proofs.YtiakcbnmagpabaaGreatDoor
open Go
set_option maxRecDepth 100000
theorem seatTie1 : Tryz.prog.laidByTextLater [("lighterman/crc.halves", Rows.laid_lighterman_crc_halves), ("lighterman/codes.literals", Rows.laid_lighterman_codes_literals), ("lighterman/codes.matches", Rows.laid_lighterman_codes_matches), ("lighterman/sha.rounds", Rows.laid_lighterman_sha_rounds), ("lighterman/tables.literals", Rows.laid_lighterman_tables_literals), ("lighterman/tables.offsets", Rows.laid_lighterman_tables_offsets), ("lighterman/tables.matches", Rows.laid_lighterman_tables_matches)] [.data, .data, .data, .data, .data, .data, .data] true :=
  Program.laidByTextLater_by_one 54 8 65 (by kernel_rfl) (by kernel_rfl) (by kernel_rfl) (by kernel_rfl) (by kernel_rfl) (by kernel_rfl) (fun _ _ => by kernel_rfl)
theorem seatTie2 : Tryz.prog.laidByTextLater [("lighterman/crc.halves", Rows.laid_lighterman_crc_halves), ("math/bits.deBruijn32tab", Rows.laid_math_bits_deBruijn32tab), ("math/bits.deBruijn64tab", Rows.laid_math_bits_deBruijn64tab), ("lighterman/codes.literals", Rows.laid_lighterman_codes_literals), ("lighterman/codes.matches", Rows.laid_lighterman_codes_matches), ("lighterman/sha.rounds", Rows.laid_lighterman_sha_rounds), ("lighterman/tables.literals", Rows.laid_lighterman_tables_literals), ("lighterman/tables.offsets", Rows.laid_lighterman_tables_offsets), ("lighterman/tables.matches", Rows.laid_lighterman_tables_matches)] [.data, .data, .data, .data, .data, .data, .data, .data, .data] true :=
  Program.laidByTextLater_by_one 54 8 65 (by kernel_rfl) (by kernel_rfl) (by kernel_rfl) (by kernel_rfl) (by kernel_rfl) (by kernel_rfl) (fun _ _ => by kernel_rfl)
theorem noOwnUnsafe : Tryz.pinned.checked.prog.headLifts.contains "ownunsafe" = false := by kernel_rfl
theorem tie : Tryz.prog.laidByTextLater [("lighterman/crc.halves", Rows.laid_lighterman_crc_halves), ("lighterman/codes.literals", Rows.laid_lighterman_codes_literals), ("lighterman/codes.matches", Rows.laid_lighterman_codes_matches), ("lighterman/sha.rounds", Rows.laid_lighterman_sha_rounds), ("lighterman/tables.literals", Rows.laid_lighterman_tables_literals), ("lighterman/tables.offsets", Rows.laid_lighterman_tables_offsets), ("lighterman/tables.matches", Rows.laid_lighterman_tables_matches)] [.data, .data, .data, .data, .data, .data, .data] true :=
  Program.laidByTextLater.sub seatTie1 ["lighterman/crc.halves", "lighterman/codes.literals", "lighterman/codes.matches", "lighterman/sha.rounds", "lighterman/tables.literals", "lighterman/tables.offsets", "lighterman/tables.matches"] (by kernel_rfl) (by kernel_rfl)
theorem topFramed_row_tie : Rows.topFramedRow.laidByTextAt .later Tryz.pinned [.data, .data, .data, .data, .data, .data, .data] true :=
  OpenClaim.laidByTextAt_later rfl rfl tie noOwnUnsafe
theorem topWired_row_tie : Rows.topWiredRow.laidByTextAt .later Tryz.pinned [.data, .data, .data, .data, .data, .data, .data] true :=
  OpenClaim.laidByTextAt_later rfl rfl tie noOwnUnsafe
theorem topPieced_row_tie : Rows.topPiecedRow.laidByTextAt .later Tryz.pinned [.data, .data, .data, .data, .data, .data, .data] true :=
  OpenClaim.laidByTextAt_later rfl rfl tie noOwnUnsafe
theorem topCut_row_tie : Rows.topCutRow.laidByTextAt .later Tryz.pinned [.data, .data, .data, .data, .data, .data, .data] true :=
  OpenClaim.laidByTextAt_later rfl rfl tie noOwnUnsafe
theorem topClocked_row_tie : Rows.topClockedRow.laidByTextAt .later Tryz.pinned [.data, .data, .data, .data, .data, .data, .data] true :=
  OpenClaim.laidByTextAt_later rfl rfl tie noOwnUnsafe
theorem tie2 : Tryz.prog.laidByTextLater [("lighterman/crc.halves", Rows.laid_lighterman_crc_halves), ("math/bits.deBruijn32tab", Rows.laid_math_bits_deBruijn32tab), ("math/bits.deBruijn64tab", Rows.laid_math_bits_deBruijn64tab), ("lighterman/codes.literals", Rows.laid_lighterman_codes_literals), ("lighterman/codes.matches", Rows.laid_lighterman_codes_matches), ("lighterman/sha.rounds", Rows.laid_lighterman_sha_rounds), ("lighterman/tables.literals", Rows.laid_lighterman_tables_literals), ("lighterman/tables.offsets", Rows.laid_lighterman_tables_offsets), ("lighterman/tables.matches", Rows.laid_lighterman_tables_matches)] [.data, .data, .data, .data, .data, .data, .data, .data, .data] true :=
  Program.laidByTextLater.sub seatTie2 ["lighterman/crc.halves", "math/bits.deBruijn32tab", "math/bits.deBruijn64tab", "lighterman/codes.literals", "lighterman/codes.matches", "lighterman/sha.rounds", "lighterman/tables.literals", "lighterman/tables.offsets", "lighterman/tables.matches"] (by kernel_rfl) (by kernel_rfl)
theorem topRooted_row_tie : Rows.topRootedRow.laidByTextAt .later Tryz.pinned [.data, .data, .data, .data, .data, .data, .data, .data, .data] true :=
  OpenClaim.laidByTextAt_later rfl rfl tie2 noOwnUnsafe
theorem topFramedUpto_row_tie : Rows.topFramedUptoRow.laidByTextAt .later Tryz.pinned [.data, .data, .data, .data, .data, .data, .data] true :=
  OpenClaim.laidByTextAt_later rfl rfl tie noOwnUnsafe
theorem topWiredUpto_row_tie : Rows.topWiredUptoRow.laidByTextAt .later Tryz.pinned [.data, .data, .data, .data, .data, .data, .data] true :=
  OpenClaim.laidByTextAt_later rfl rfl tie noOwnUnsafe
theorem topPiecedUpto_row_tie : Rows.topPiecedUptoRow.laidByTextAt .later Tryz.pinned [.data, .data, .data, .data, .data, .data, .data] true :=
  OpenClaim.laidByTextAt_later rfl rfl tie noOwnUnsafe
theorem topCutUpto_row_tie : Rows.topCutUptoRow.laidByTextAt .later Tryz.pinned [.data, .data, .data, .data, .data, .data, .data] true :=
  OpenClaim.laidByTextAt_later rfl rfl tie noOwnUnsafe
theorem topClockedUpto_row_tie : Rows.topClockedUptoRow.laidByTextAt .later Tryz.pinned [.data, .data, .data, .data, .data, .data, .data] true :=
  OpenClaim.laidByTextAt_later rfl rfl tie noOwnUnsafe
theorem topRootedUpto_row_tie : Rows.topRootedUptoRow.laidByTextAt .later Tryz.pinned [.data, .data, .data, .data, .data, .data, .data, .data, .data] true :=
  OpenClaim.laidByTextAt_later rfl rfl tie2 noOwnUnsafe
end Go.Proofs.YtiakcbnmagpabaaGreatDoor
