/-
  NARROWER THAN 'FOR EVERY INPUT', by the rows' own cells (each row's printed sentence says how): TopFramed: laid · TopWired: laid · TopPieced: laid · TopCut: laid · TopClocked: laid · TopRooted: laid.
  DERIVED. THE GIVEN ROWS OF THIS SEAT. 6 by the template 'for every input the law returns true; each argument reads behind the call as it read before'; 0 by the template 'total and deterministic' (their statements: YtiakcbnmagpabaaGreatDoorTotals.lean).
  GIVEN WITH THE SEED: the statements are not yours to turn. If you find one false, say at which input.
  Laid BY PROGRAM, IN A SANDBOX (cutbox-rows.mjs): the forced cells as the released guide's own fill.sh prints them over the translation 64141c160004041e… (all of the seat's roots in one cut). By AI agents, Wed Nov 11 2026. No macro, syntax, notation, axiom, sorry.
-/
import Derived.Test.YtiakcbnmagpabaaGreatDoorChecked
import GoSem.Claim
import GoSem.ClaimJoined
import GoSem.ClaimMapViews
import Derived.JoinedTies
import Derived.KernelRfl
namespace Go.Proofs.YtiakcbnmagpabaaGreatDoor
/- THE CELL 'sum', in the pinned program and in every row, IS THE sha256 OF THE DUMP (.gsa) THAT YtiakcbnmagpabaaGreatDoorProg.lean LOADS. Nothing in Lean hashes anything: it is a label: what it is worth is what the hold of that sum in a sandbox is worth. -/
noncomputable def Tryz.pinned : Pinned := { name := "ytiakcbnmagpabaagreatdoor", sum := "64141c160004041eda0762e31a4dc4e7f6fb1bdbca5ef6b08f8d10dee33e0921", checked := Tryz.checked }
namespace Rows
def none {H : Type} : Left H := { results := [], args := [] }

/- WHAT THE LISTED PACKAGE-LEVEL VARIABLES READ AS WHEN THE CALL BEGINS. Each datum BY PROGRAM (the guide's laid-datum.mjs) off the statement by which the dump's own 'gosem.cut.vars' lays the variable. In a bare row this is a premise. The card (YtiakcbnmagpabaaGreatDoorCards.lean) ties it to the program's text. -/
def laid_lighterman_crc_halves {H : Type} : DataW H := .agg [.lit (.int .u32 0), .lit (.int .u32 274646895), .lit (.int .u32 549293790), .lit (.int .u32 820201905), .lit (.int .u32 1098587580), .lit (.int .u32 1361435347), .lit (.int .u32 1640403810), .lit (.int .u32 1905808397), .lit (.int .u32 2197175160), .lit (.int .u32 2460548119), .lit (.int .u32 2722870694), .lit (.int .u32 2987750089), .lit (.int .u32 3280807620), .lit (.int .u32 3553878443), .lit (.int .u32 3811616794), .lit (.int .u32 4084100981)]
def laid_lighterman_codes_literals {H : Type} : DataW H := .agg [.lit (.int .i64 1), .lit (.int .i64 1), .lit (.int .i64 1), .lit (.int .i64 1), .lit (.int .i64 2), .lit (.int .i64 2), .lit (.int .i64 3), .lit (.int .i64 3), .lit (.int .i64 4), .lit (.int .i64 6), .lit (.int .i64 7), .lit (.int .i64 8), .lit (.int .i64 9), .lit (.int .i64 10), .lit (.int .i64 11), .lit (.int .i64 12), .lit (.int .i64 13), .lit (.int .i64 14), .lit (.int .i64 15), .lit (.int .i64 16)]
def laid_lighterman_codes_matches {H : Type} : DataW H := .agg [.lit (.int .i64 1), .lit (.int .i64 1), .lit (.int .i64 1), .lit (.int .i64 1), .lit (.int .i64 2), .lit (.int .i64 2), .lit (.int .i64 3), .lit (.int .i64 3), .lit (.int .i64 4), .lit (.int .i64 4), .lit (.int .i64 5), .lit (.int .i64 7), .lit (.int .i64 8), .lit (.int .i64 9), .lit (.int .i64 10), .lit (.int .i64 11), .lit (.int .i64 12), .lit (.int .i64 13), .lit (.int .i64 14), .lit (.int .i64 15), .lit (.int .i64 16)]
def laid_lighterman_sha_rounds {H : Type} : DataW H := .agg [.lit (.int .u32 1116352408), .lit (.int .u32 1899447441), .lit (.int .u32 3049323471), .lit (.int .u32 3921009573), .lit (.int .u32 961987163), .lit (.int .u32 1508970993), .lit (.int .u32 2453635748), .lit (.int .u32 2870763221), .lit (.int .u32 3624381080), .lit (.int .u32 310598401), .lit (.int .u32 607225278), .lit (.int .u32 1426881987), .lit (.int .u32 1925078388), .lit (.int .u32 2162078206), .lit (.int .u32 2614888103), .lit (.int .u32 3248222580), .lit (.int .u32 3835390401), .lit (.int .u32 4022224774), .lit (.int .u32 264347078), .lit (.int .u32 604807628), .lit (.int .u32 770255983), .lit (.int .u32 1249150122), .lit (.int .u32 1555081692), .lit (.int .u32 1996064986), .lit (.int .u32 2554220882), .lit (.int .u32 2821834349), .lit (.int .u32 2952996808), .lit (.int .u32 3210313671), .lit (.int .u32 3336571891), .lit (.int .u32 3584528711), .lit (.int .u32 113926993), .lit (.int .u32 338241895), .lit (.int .u32 666307205), .lit (.int .u32 773529912), .lit (.int .u32 1294757372), .lit (.int .u32 1396182291), .lit (.int .u32 1695183700), .lit (.int .u32 1986661051), .lit (.int .u32 2177026350), .lit (.int .u32 2456956037), .lit (.int .u32 2730485921), .lit (.int .u32 2820302411), .lit (.int .u32 3259730800), .lit (.int .u32 3345764771), .lit (.int .u32 3516065817), .lit (.int .u32 3600352804), .lit (.int .u32 4094571909), .lit (.int .u32 275423344), .lit (.int .u32 430227734), .lit (.int .u32 506948616), .lit (.int .u32 659060556), .lit (.int .u32 883997877), .lit (.int .u32 958139571), .lit (.int .u32 1322822218), .lit (.int .u32 1537002063), .lit (.int .u32 1747873779), .lit (.int .u32 1955562222), .lit (.int .u32 2024104815), .lit (.int .u32 2227730452), .lit (.int .u32 2361852424), .lit (.int .u32 2428436474), .lit (.int .u32 2756734187), .lit (.int .u32 3204031479), .lit (.int .u32 3329325298)]
def laid_lighterman_tables_literals {H : Type} : DataW H := .agg [.lit (.int .i64 4), .lit (.int .i64 3), .lit (.int .i64 2), .lit (.int .i64 2), .lit (.int .i64 2), .lit (.int .i64 2), .lit (.int .i64 2), .lit (.int .i64 2), .lit (.int .i64 2), .lit (.int .i64 2), .lit (.int .i64 2), .lit (.int .i64 2), .lit (.int .i64 2), .lit (.int .i64 1), .lit (.int .i64 1), .lit (.int .i64 1), .lit (.int .i64 2), .lit (.int .i64 2), .lit (.int .i64 2), .lit (.int .i64 2), .lit (.int .i64 2), .lit (.int .i64 2), .lit (.int .i64 2), .lit (.int .i64 2), .lit (.int .i64 2), .lit (.int .i64 3), .lit (.int .i64 2), .lit (.int .i64 1), .lit (.int .i64 1), .lit (.int .i64 1), .lit (.int .i64 1), .lit (.int .i64 1), .lit (.int .i64 (-1)), .lit (.int .i64 (-1)), .lit (.int .i64 (-1)), .lit (.int .i64 (-1))]
def laid_lighterman_tables_offsets {H : Type} : DataW H := .agg [.lit (.int .i64 1), .lit (.int .i64 1), .lit (.int .i64 1), .lit (.int .i64 1), .lit (.int .i64 1), .lit (.int .i64 1), .lit (.int .i64 2), .lit (.int .i64 2), .lit (.int .i64 2), .lit (.int .i64 1), .lit (.int .i64 1), .lit (.int .i64 1), .lit (.int .i64 1), .lit (.int .i64 1), .lit (.int .i64 1), .lit (.int .i64 1), .lit (.int .i64 1), .lit (.int .i64 1), .lit (.int .i64 1), .lit (.int .i64 1), .lit (.int .i64 1), .lit (.int .i64 1), .lit (.int .i64 1), .lit (.int .i64 1), .lit (.int .i64 (-1)), .lit (.int .i64 (-1)), .lit (.int .i64 (-1)), .lit (.int .i64 (-1)), .lit (.int .i64 (-1))]
def laid_lighterman_tables_matches {H : Type} : DataW H := .agg [.lit (.int .i64 1), .lit (.int .i64 4), .lit (.int .i64 3), .lit (.int .i64 2), .lit (.int .i64 2), .lit (.int .i64 2), .lit (.int .i64 2), .lit (.int .i64 2), .lit (.int .i64 2), .lit (.int .i64 1), .lit (.int .i64 1), .lit (.int .i64 1), .lit (.int .i64 1), .lit (.int .i64 1), .lit (.int .i64 1), .lit (.int .i64 1), .lit (.int .i64 1), .lit (.int .i64 1), .lit (.int .i64 1), .lit (.int .i64 1), .lit (.int .i64 1), .lit (.int .i64 1), .lit (.int .i64 1), .lit (.int .i64 1), .lit (.int .i64 1), .lit (.int .i64 1), .lit (.int .i64 1), .lit (.int .i64 1), .lit (.int .i64 1), .lit (.int .i64 1), .lit (.int .i64 1), .lit (.int .i64 1), .lit (.int .i64 1), .lit (.int .i64 1), .lit (.int .i64 1), .lit (.int .i64 1), .lit (.int .i64 1), .lit (.int .i64 1), .lit (.int .i64 1), .lit (.int .i64 1), .lit (.int .i64 1), .lit (.int .i64 1), .lit (.int .i64 1), .lit (.int .i64 1), .lit (.int .i64 1), .lit (.int .i64 1), .lit (.int .i64 (-1)), .lit (.int .i64 (-1)), .lit (.int .i64 (-1)), .lit (.int .i64 (-1)), .lit (.int .i64 (-1)), .lit (.int .i64 (-1)), .lit (.int .i64 (-1))]
def laid_math_bits_deBruijn32tab {H : Type} : DataW H := .agg [.lit (.int .u8 0), .lit (.int .u8 1), .lit (.int .u8 28), .lit (.int .u8 2), .lit (.int .u8 29), .lit (.int .u8 14), .lit (.int .u8 24), .lit (.int .u8 3), .lit (.int .u8 30), .lit (.int .u8 22), .lit (.int .u8 20), .lit (.int .u8 15), .lit (.int .u8 25), .lit (.int .u8 17), .lit (.int .u8 4), .lit (.int .u8 8), .lit (.int .u8 31), .lit (.int .u8 27), .lit (.int .u8 13), .lit (.int .u8 23), .lit (.int .u8 21), .lit (.int .u8 19), .lit (.int .u8 16), .lit (.int .u8 7), .lit (.int .u8 26), .lit (.int .u8 12), .lit (.int .u8 18), .lit (.int .u8 6), .lit (.int .u8 11), .lit (.int .u8 5), .lit (.int .u8 10), .lit (.int .u8 9)]
def laid_math_bits_deBruijn64tab {H : Type} : DataW H := .agg [.lit (.int .u8 0), .lit (.int .u8 1), .lit (.int .u8 56), .lit (.int .u8 2), .lit (.int .u8 57), .lit (.int .u8 49), .lit (.int .u8 28), .lit (.int .u8 3), .lit (.int .u8 61), .lit (.int .u8 58), .lit (.int .u8 42), .lit (.int .u8 50), .lit (.int .u8 38), .lit (.int .u8 29), .lit (.int .u8 17), .lit (.int .u8 4), .lit (.int .u8 62), .lit (.int .u8 47), .lit (.int .u8 59), .lit (.int .u8 36), .lit (.int .u8 45), .lit (.int .u8 43), .lit (.int .u8 51), .lit (.int .u8 22), .lit (.int .u8 53), .lit (.int .u8 39), .lit (.int .u8 33), .lit (.int .u8 30), .lit (.int .u8 24), .lit (.int .u8 18), .lit (.int .u8 12), .lit (.int .u8 5), .lit (.int .u8 63), .lit (.int .u8 55), .lit (.int .u8 48), .lit (.int .u8 27), .lit (.int .u8 60), .lit (.int .u8 41), .lit (.int .u8 37), .lit (.int .u8 16), .lit (.int .u8 46), .lit (.int .u8 35), .lit (.int .u8 44), .lit (.int .u8 21), .lit (.int .u8 52), .lit (.int .u8 32), .lit (.int .u8 23), .lit (.int .u8 11), .lit (.int .u8 54), .lit (.int .u8 26), .lit (.int .u8 40), .lit (.int .u8 15), .lit (.int .u8 34), .lit (.int .u8 20), .lit (.int .u8 31), .lit (.int .u8 10), .lit (.int .u8 25), .lit (.int .u8 14), .lit (.int .u8 19), .lit (.int .u8 9), .lit (.int .u8 13), .lit (.int .u8 8), .lit (.int .u8 7), .lit (.int .u8 6)]

/-- 'lightermantop.TopFramed': WHATEVER THE INPUT: true; the input reads as it did. -/
def topFramedSpec : ChangeSpec := { name := "topFramed", fn := fun _ => fun
  | [d1, d2] => { results := [.lit (.bool true)], args := [d1, d2] }
  | _ => none }
def topFramedRow : OpenClaim := { program := "ytiakcbnmagpabaagreatdoor", sum := "64141c160004041eda0762e31a4dc4e7f6fb1bdbca5ef6b08f8d10dee33e0921", func := "lighterman/lightermantop.TopFramed", spec := "topFramed", unfollowed := true, recurses := true, named := ["lighterman/codes.literals", "lighterman/codes.matches", "lighterman/tables.literals", "lighterman/tables.offsets", "lighterman/tables.matches", "lighterman/sha.rounds", "lighterman/crc.halves"], plainKeys := false, apart := false, laid := [("lighterman/crc.halves", laid_lighterman_crc_halves), ("lighterman/codes.literals", laid_lighterman_codes_literals), ("lighterman/codes.matches", laid_lighterman_codes_matches), ("lighterman/sha.rounds", laid_lighterman_sha_rounds), ("lighterman/tables.literals", laid_lighterman_tables_literals), ("lighterman/tables.offsets", laid_lighterman_tables_offsets), ("lighterman/tables.matches", laid_lighterman_tables_matches)] }
def TopFramedSaid : Prop := topFramedRow.holds Tryz.pinned (OpenSpec.ofChange topFramedSpec)

/-- ITS FALSE NEIGHBOUR: 'it returns false'. Refute it at one input. -/
def topFramedWrong : ChangeSpec := { name := "topFramed", fn := fun _ => fun
  | [d1, d2] => { results := [.lit (.bool false)], args := [d1, d2] }
  | _ => none }
def TopFramedWrongFalsely : Prop := topFramedRow.holds Tryz.pinned (OpenSpec.ofChange topFramedWrong)

/-- 'lightermantop.TopWired': WHATEVER THE INPUT: true; the input reads as it did. -/
def topWiredSpec : ChangeSpec := { name := "topWired", fn := fun _ => fun
  | [d1, d2, d3] => { results := [.lit (.bool true)], args := [d1, d2, d3] }
  | _ => none }
def topWiredRow : OpenClaim := { program := "ytiakcbnmagpabaagreatdoor", sum := "64141c160004041eda0762e31a4dc4e7f6fb1bdbca5ef6b08f8d10dee33e0921", func := "lighterman/lightermantop.TopWired", spec := "topWired", unfollowed := true, recurses := true, named := ["lighterman/crc.halves", "lighterman/codes.literals", "lighterman/codes.matches", "lighterman/tables.literals", "lighterman/tables.offsets", "lighterman/tables.matches", "lighterman/sha.rounds"], plainKeys := false, apart := false, laid := [("lighterman/crc.halves", laid_lighterman_crc_halves), ("lighterman/codes.literals", laid_lighterman_codes_literals), ("lighterman/codes.matches", laid_lighterman_codes_matches), ("lighterman/sha.rounds", laid_lighterman_sha_rounds), ("lighterman/tables.literals", laid_lighterman_tables_literals), ("lighterman/tables.offsets", laid_lighterman_tables_offsets), ("lighterman/tables.matches", laid_lighterman_tables_matches)] }
def TopWiredSaid : Prop := topWiredRow.holds Tryz.pinned (OpenSpec.ofChange topWiredSpec)

/-- ITS FALSE NEIGHBOUR: 'it returns false'. Refute it at one input. -/
def topWiredWrong : ChangeSpec := { name := "topWired", fn := fun _ => fun
  | [d1, d2, d3] => { results := [.lit (.bool false)], args := [d1, d2, d3] }
  | _ => none }
def TopWiredWrongFalsely : Prop := topWiredRow.holds Tryz.pinned (OpenSpec.ofChange topWiredWrong)

/-- 'lightermantop.TopPieced': WHATEVER THE INPUT: true; the input reads as it did. -/
def topPiecedSpec : ChangeSpec := { name := "topPieced", fn := fun _ => fun
  | [d1, d2, d3] => { results := [.lit (.bool true)], args := [d1, d2, d3] }
  | _ => none }
def topPiecedRow : OpenClaim := { program := "ytiakcbnmagpabaagreatdoor", sum := "64141c160004041eda0762e31a4dc4e7f6fb1bdbca5ef6b08f8d10dee33e0921", func := "lighterman/lightermantop.TopPieced", spec := "topPieced", unfollowed := true, recurses := true, named := ["lighterman/codes.literals", "lighterman/codes.matches", "lighterman/tables.literals", "lighterman/tables.offsets", "lighterman/tables.matches", "lighterman/sha.rounds", "lighterman/crc.halves"], plainKeys := false, apart := false, laid := [("lighterman/crc.halves", laid_lighterman_crc_halves), ("lighterman/codes.literals", laid_lighterman_codes_literals), ("lighterman/codes.matches", laid_lighterman_codes_matches), ("lighterman/sha.rounds", laid_lighterman_sha_rounds), ("lighterman/tables.literals", laid_lighterman_tables_literals), ("lighterman/tables.offsets", laid_lighterman_tables_offsets), ("lighterman/tables.matches", laid_lighterman_tables_matches)] }
def TopPiecedSaid : Prop := topPiecedRow.holds Tryz.pinned (OpenSpec.ofChange topPiecedSpec)

/-- ITS FALSE NEIGHBOUR: 'it returns false'. Refute it at one input. -/
def topPiecedWrong : ChangeSpec := { name := "topPieced", fn := fun _ => fun
  | [d1, d2, d3] => { results := [.lit (.bool false)], args := [d1, d2, d3] }
  | _ => none }
def TopPiecedWrongFalsely : Prop := topPiecedRow.holds Tryz.pinned (OpenSpec.ofChange topPiecedWrong)

/-- 'lightermantop.TopCut': WHATEVER THE INPUT: true; the input reads as it did. -/
def topCutSpec : ChangeSpec := { name := "topCut", fn := fun _ => fun
  | [d1, d2, d3] => { results := [.lit (.bool true)], args := [d1, d2, d3] }
  | _ => none }
def topCutRow : OpenClaim := { program := "ytiakcbnmagpabaagreatdoor", sum := "64141c160004041eda0762e31a4dc4e7f6fb1bdbca5ef6b08f8d10dee33e0921", func := "lighterman/lightermantop.TopCut", spec := "topCut", unfollowed := true, recurses := true, named := ["lighterman/crc.halves", "lighterman/codes.literals", "lighterman/codes.matches", "lighterman/tables.literals", "lighterman/tables.offsets", "lighterman/tables.matches", "lighterman/sha.rounds"], plainKeys := false, apart := false, laid := [("lighterman/crc.halves", laid_lighterman_crc_halves), ("lighterman/codes.literals", laid_lighterman_codes_literals), ("lighterman/codes.matches", laid_lighterman_codes_matches), ("lighterman/sha.rounds", laid_lighterman_sha_rounds), ("lighterman/tables.literals", laid_lighterman_tables_literals), ("lighterman/tables.offsets", laid_lighterman_tables_offsets), ("lighterman/tables.matches", laid_lighterman_tables_matches)] }
def TopCutSaid : Prop := topCutRow.holds Tryz.pinned (OpenSpec.ofChange topCutSpec)

/-- ITS FALSE NEIGHBOUR: 'it returns false'. Refute it at one input. -/
def topCutWrong : ChangeSpec := { name := "topCut", fn := fun _ => fun
  | [d1, d2, d3] => { results := [.lit (.bool false)], args := [d1, d2, d3] }
  | _ => none }
def TopCutWrongFalsely : Prop := topCutRow.holds Tryz.pinned (OpenSpec.ofChange topCutWrong)

/-- 'lightermantop.TopClocked': WHATEVER THE INPUT: true; the input reads as it did. -/
def topClockedSpec : ChangeSpec := { name := "topClocked", fn := fun _ => fun
  | [d1, d2, d3, d4] => { results := [.lit (.bool true)], args := [d1, d2, d3, d4] }
  | _ => none }
def topClockedRow : OpenClaim := { program := "ytiakcbnmagpabaagreatdoor", sum := "64141c160004041eda0762e31a4dc4e7f6fb1bdbca5ef6b08f8d10dee33e0921", func := "lighterman/lightermantop.TopClocked", spec := "topClocked", inPlace := ["math/bits.Add64"], unfollowed := true, recurses := true, named := ["lighterman/codes.literals", "lighterman/codes.matches", "lighterman/tables.literals", "lighterman/tables.offsets", "lighterman/tables.matches", "lighterman/sha.rounds", "lighterman/crc.halves", "math/bits.divideError", "math/bits.overflowError"], plainKeys := false, apart := false, laid := [("lighterman/crc.halves", laid_lighterman_crc_halves), ("lighterman/codes.literals", laid_lighterman_codes_literals), ("lighterman/codes.matches", laid_lighterman_codes_matches), ("lighterman/sha.rounds", laid_lighterman_sha_rounds), ("lighterman/tables.literals", laid_lighterman_tables_literals), ("lighterman/tables.offsets", laid_lighterman_tables_offsets), ("lighterman/tables.matches", laid_lighterman_tables_matches)] }
def TopClockedSaid : Prop := topClockedRow.holds Tryz.pinned (OpenSpec.ofChange topClockedSpec)

/-- ITS FALSE NEIGHBOUR: 'it returns false'. Refute it at one input. -/
def topClockedWrong : ChangeSpec := { name := "topClocked", fn := fun _ => fun
  | [d1, d2, d3, d4] => { results := [.lit (.bool false)], args := [d1, d2, d3, d4] }
  | _ => none }
def TopClockedWrongFalsely : Prop := topClockedRow.holds Tryz.pinned (OpenSpec.ofChange topClockedWrong)

/-- 'lightermantop.TopRooted': WHATEVER THE INPUT: true; the input reads as it did. -/
def topRootedSpec : ChangeSpec := { name := "topRooted", fn := fun _ => fun
  | [d1, d2, d3] => { results := [.lit (.bool true)], args := [d1, d2, d3] }
  | _ => none }
def topRootedRow : OpenClaim := { program := "ytiakcbnmagpabaagreatdoor", sum := "64141c160004041eda0762e31a4dc4e7f6fb1bdbca5ef6b08f8d10dee33e0921", func := "lighterman/lightermantop.TopRooted", spec := "topRooted", unfollowed := true, recurses := true, named := ["lighterman/sha.rounds", "lighterman/codes.literals", "lighterman/codes.matches", "lighterman/tables.literals", "lighterman/tables.offsets", "lighterman/tables.matches", "lighterman/crc.halves", "math/bits.deBruijn32tab", "math/bits.deBruijn64tab"], plainKeys := false, apart := false, laid := [("lighterman/crc.halves", laid_lighterman_crc_halves), ("math/bits.deBruijn32tab", laid_math_bits_deBruijn32tab), ("math/bits.deBruijn64tab", laid_math_bits_deBruijn64tab), ("lighterman/codes.literals", laid_lighterman_codes_literals), ("lighterman/codes.matches", laid_lighterman_codes_matches), ("lighterman/sha.rounds", laid_lighterman_sha_rounds), ("lighterman/tables.literals", laid_lighterman_tables_literals), ("lighterman/tables.offsets", laid_lighterman_tables_offsets), ("lighterman/tables.matches", laid_lighterman_tables_matches)] }
def TopRootedSaid : Prop := topRootedRow.holds Tryz.pinned (OpenSpec.ofChange topRootedSpec)

/-- ITS FALSE NEIGHBOUR: 'it returns false'. Refute it at one input. -/
def topRootedWrong : ChangeSpec := { name := "topRooted", fn := fun _ => fun
  | [d1, d2, d3] => { results := [.lit (.bool false)], args := [d1, d2, d3] }
  | _ => none }
def TopRootedWrongFalsely : Prop := topRootedRow.holds Tryz.pinned (OpenSpec.ofChange topRootedWrong)

/- THE SECOND FORM. 'bulk': how many values and letters a reading holds, each counted each time it is reached (what is shared counts as often as it is met; a slice's spare places count too). A statement '..UptoSaid' is the law's where the arguments, and the package variables that the reading takes, are together of bulk at most 1048576: NARROWER than '..Said'. Prove '..Said' where nothing that the law and all that it calls make is longer than what came in: it says more and counts as full. Else prove '..UptoSaid'. A law counts once. -/
mutual
def uptoBulk {H : Type} : DataW H → Nat
  | .lit (.string bytes) => bytes.length + 1
  | .lit _ => 1
  | .nil => 1
  | .ptr d => uptoBulk d + 1
  | .slice elems spare => uptoBulkAll elems + uptoBulkAll spare + 1
  | .agg parts => uptoBulkAll parts + 1
  | .iface _ d => uptoBulk d + 1
  | .map entries => uptoBulkEntries entries + 1
  | .held _ => 1
def uptoBulkAll {H : Type} : List (DataW H) → Nat
  | [] => 0
  | d :: r => uptoBulk d + uptoBulkAll r
def uptoBulkEntries {H : Type} : List (Lit × DataW H) → Nat
  | [] => 0
  | x :: r => uptoBulkEntry x + uptoBulkEntries r
def uptoBulkEntry {H : Type} : Lit × DataW H → Nat
  | (.string bytes, d) => bytes.length + uptoBulk d + 1
  | (_, d) => uptoBulk d + 1
 end
def uptoSmall : (H : Type) → List (DataW H) → Bool := fun _ ds => decide (uptoBulkAll ds ≤ 1048576)
def OpenSpec.upto (s : _root_.Go.ChangeSpec) : _root_.Go.OpenSpec := { _root_.Go.OpenSpec.ofChange s with cond := some uptoSmall }

/-- 'lightermantop.TopFramed', WHERE WHAT IT READS IS OF BULK AT MOST 1048576: true; the input reads as it did. -/
def topFramedUptoRow : OpenClaim := { program := "ytiakcbnmagpabaagreatdoor", sum := "64141c160004041eda0762e31a4dc4e7f6fb1bdbca5ef6b08f8d10dee33e0921", func := "lighterman/lightermantop.TopFramed", spec := "topFramed", unfollowed := true, recurses := true, named := ["lighterman/codes.literals", "lighterman/codes.matches", "lighterman/tables.literals", "lighterman/tables.offsets", "lighterman/tables.matches", "lighterman/sha.rounds", "lighterman/crc.halves"], plainKeys := false, apart := false, laid := [("lighterman/crc.halves", laid_lighterman_crc_halves), ("lighterman/codes.literals", laid_lighterman_codes_literals), ("lighterman/codes.matches", laid_lighterman_codes_matches), ("lighterman/sha.rounds", laid_lighterman_sha_rounds), ("lighterman/tables.literals", laid_lighterman_tables_literals), ("lighterman/tables.offsets", laid_lighterman_tables_offsets), ("lighterman/tables.matches", laid_lighterman_tables_matches)], narrowed := true }
def TopFramedUptoSaid : Prop := topFramedUptoRow.holds Tryz.pinned (OpenSpec.upto topFramedSpec)

/-- 'lightermantop.TopWired', WHERE WHAT IT READS IS OF BULK AT MOST 1048576: true; the input reads as it did. -/
def topWiredUptoRow : OpenClaim := { program := "ytiakcbnmagpabaagreatdoor", sum := "64141c160004041eda0762e31a4dc4e7f6fb1bdbca5ef6b08f8d10dee33e0921", func := "lighterman/lightermantop.TopWired", spec := "topWired", unfollowed := true, recurses := true, named := ["lighterman/crc.halves", "lighterman/codes.literals", "lighterman/codes.matches", "lighterman/tables.literals", "lighterman/tables.offsets", "lighterman/tables.matches", "lighterman/sha.rounds"], plainKeys := false, apart := false, laid := [("lighterman/crc.halves", laid_lighterman_crc_halves), ("lighterman/codes.literals", laid_lighterman_codes_literals), ("lighterman/codes.matches", laid_lighterman_codes_matches), ("lighterman/sha.rounds", laid_lighterman_sha_rounds), ("lighterman/tables.literals", laid_lighterman_tables_literals), ("lighterman/tables.offsets", laid_lighterman_tables_offsets), ("lighterman/tables.matches", laid_lighterman_tables_matches)], narrowed := true }
def TopWiredUptoSaid : Prop := topWiredUptoRow.holds Tryz.pinned (OpenSpec.upto topWiredSpec)

/-- 'lightermantop.TopPieced', WHERE WHAT IT READS IS OF BULK AT MOST 1048576: true; the input reads as it did. -/
def topPiecedUptoRow : OpenClaim := { program := "ytiakcbnmagpabaagreatdoor", sum := "64141c160004041eda0762e31a4dc4e7f6fb1bdbca5ef6b08f8d10dee33e0921", func := "lighterman/lightermantop.TopPieced", spec := "topPieced", unfollowed := true, recurses := true, named := ["lighterman/codes.literals", "lighterman/codes.matches", "lighterman/tables.literals", "lighterman/tables.offsets", "lighterman/tables.matches", "lighterman/sha.rounds", "lighterman/crc.halves"], plainKeys := false, apart := false, laid := [("lighterman/crc.halves", laid_lighterman_crc_halves), ("lighterman/codes.literals", laid_lighterman_codes_literals), ("lighterman/codes.matches", laid_lighterman_codes_matches), ("lighterman/sha.rounds", laid_lighterman_sha_rounds), ("lighterman/tables.literals", laid_lighterman_tables_literals), ("lighterman/tables.offsets", laid_lighterman_tables_offsets), ("lighterman/tables.matches", laid_lighterman_tables_matches)], narrowed := true }
def TopPiecedUptoSaid : Prop := topPiecedUptoRow.holds Tryz.pinned (OpenSpec.upto topPiecedSpec)

/-- 'lightermantop.TopCut', WHERE WHAT IT READS IS OF BULK AT MOST 1048576: true; the input reads as it did. -/
def topCutUptoRow : OpenClaim := { program := "ytiakcbnmagpabaagreatdoor", sum := "64141c160004041eda0762e31a4dc4e7f6fb1bdbca5ef6b08f8d10dee33e0921", func := "lighterman/lightermantop.TopCut", spec := "topCut", unfollowed := true, recurses := true, named := ["lighterman/crc.halves", "lighterman/codes.literals", "lighterman/codes.matches", "lighterman/tables.literals", "lighterman/tables.offsets", "lighterman/tables.matches", "lighterman/sha.rounds"], plainKeys := false, apart := false, laid := [("lighterman/crc.halves", laid_lighterman_crc_halves), ("lighterman/codes.literals", laid_lighterman_codes_literals), ("lighterman/codes.matches", laid_lighterman_codes_matches), ("lighterman/sha.rounds", laid_lighterman_sha_rounds), ("lighterman/tables.literals", laid_lighterman_tables_literals), ("lighterman/tables.offsets", laid_lighterman_tables_offsets), ("lighterman/tables.matches", laid_lighterman_tables_matches)], narrowed := true }
def TopCutUptoSaid : Prop := topCutUptoRow.holds Tryz.pinned (OpenSpec.upto topCutSpec)

/-- 'lightermantop.TopClocked', WHERE WHAT IT READS IS OF BULK AT MOST 1048576: true; the input reads as it did. -/
def topClockedUptoRow : OpenClaim := { program := "ytiakcbnmagpabaagreatdoor", sum := "64141c160004041eda0762e31a4dc4e7f6fb1bdbca5ef6b08f8d10dee33e0921", func := "lighterman/lightermantop.TopClocked", spec := "topClocked", inPlace := ["math/bits.Add64"], unfollowed := true, recurses := true, named := ["lighterman/codes.literals", "lighterman/codes.matches", "lighterman/tables.literals", "lighterman/tables.offsets", "lighterman/tables.matches", "lighterman/sha.rounds", "lighterman/crc.halves", "math/bits.divideError", "math/bits.overflowError"], plainKeys := false, apart := false, laid := [("lighterman/crc.halves", laid_lighterman_crc_halves), ("lighterman/codes.literals", laid_lighterman_codes_literals), ("lighterman/codes.matches", laid_lighterman_codes_matches), ("lighterman/sha.rounds", laid_lighterman_sha_rounds), ("lighterman/tables.literals", laid_lighterman_tables_literals), ("lighterman/tables.offsets", laid_lighterman_tables_offsets), ("lighterman/tables.matches", laid_lighterman_tables_matches)], narrowed := true }
def TopClockedUptoSaid : Prop := topClockedUptoRow.holds Tryz.pinned (OpenSpec.upto topClockedSpec)

/-- 'lightermantop.TopRooted', WHERE WHAT IT READS IS OF BULK AT MOST 1048576: true; the input reads as it did. -/
def topRootedUptoRow : OpenClaim := { program := "ytiakcbnmagpabaagreatdoor", sum := "64141c160004041eda0762e31a4dc4e7f6fb1bdbca5ef6b08f8d10dee33e0921", func := "lighterman/lightermantop.TopRooted", spec := "topRooted", unfollowed := true, recurses := true, named := ["lighterman/sha.rounds", "lighterman/codes.literals", "lighterman/codes.matches", "lighterman/tables.literals", "lighterman/tables.offsets", "lighterman/tables.matches", "lighterman/crc.halves", "math/bits.deBruijn32tab", "math/bits.deBruijn64tab"], plainKeys := false, apart := false, laid := [("lighterman/crc.halves", laid_lighterman_crc_halves), ("math/bits.deBruijn32tab", laid_math_bits_deBruijn32tab), ("math/bits.deBruijn64tab", laid_math_bits_deBruijn64tab), ("lighterman/codes.literals", laid_lighterman_codes_literals), ("lighterman/codes.matches", laid_lighterman_codes_matches), ("lighterman/sha.rounds", laid_lighterman_sha_rounds), ("lighterman/tables.literals", laid_lighterman_tables_literals), ("lighterman/tables.offsets", laid_lighterman_tables_offsets), ("lighterman/tables.matches", laid_lighterman_tables_matches)], narrowed := true }
def TopRootedUptoSaid : Prop := topRootedUptoRow.holds Tryz.pinned (OpenSpec.upto topRootedSpec)

end Rows
end Go.Proofs.YtiakcbnmagpabaaGreatDoor
