/- The law of the clock: a round of its loop. -/
import Derived.Test.YtiakcbnmagpabaaGreatDoorLClock
import Derived.Test.YtiakcbnmagpabaaGreatDoorA7
namespace Go.Am

noncomputable abbrev H8 : CallH := HC 8
abbrev nY : YH := fun _ => none

theorem st28 (H : CallH) (Y : YH) (h : AH) (i j x l m : Nat) (hi : h.get i = some (.row 1 [.int .u32 (Int.ofNat l)] .closed)) (hj : h.get j = some (.row 1 [.int .u32 (Int.ofNat m)] .closed)) (hl : l < 4294967296) (hm : m < 4294967296) :
    stepFn ctab.fget 1000000 H Y 28 [u x, .ptr i 0, .ptr j 0] h = some (u (min (max x l) m), h) := by
  have wn : ∀ a : Nat, a < 4294967296 → IntKind.u64.wrap (Int.ofNat a) = Int.ofNat a := fun a ha => u64_of (by show (0 : Int) ≤ (a : Int); omega) (by show (a : Int) < _; omega)
  obtain ⟨s1, e1, e2, e3, e4⟩ : ∃ s1, evCode H 1000000 false Y c28.body (argRegs [u x, .ptr i 0, .ptr j 0] 0 .nil, { h with marks := [] }) = some (.ret, s1) ∧ s1.2.marks = [] ∧ (evRVs s1.1 s1.2 c28.results).map retV = some (u (min (max x l) m)) ∧ { s1.2 with marks := h.marks } = h :=
    ⟨_, kSeq (by kernel_rfl) (kRun .normal (by kernel_rfl)) (kSeq (by kernel_rfl) (kOps (by kernel_rfl) (rSeg 1 (by kernel_rfl)
      (rOp (some 6) (.load1 (.r 1)) (by kernel_rfl) (load1_of (id := i) (off := 0) (by kernel_rfl) hi rfl)
      (rOp (some 7) (.toInt .u64 (.r 6)) (by kernel_rfl) (toInt_of (k' := .u32) (A := Int.ofNat l) (R := Int.ofNat l) (by kernel_rfl) (wn l hl))
      (rOp (some 8) (.maxmin true (.r 5) [.r 7]) (by kernel_rfl) (max_of (k := .u64) (A := Int.ofNat x) (B := Int.ofNat l) (R := Int.ofNat (max x l)) (by kernel_rfl) (by kernel_rfl) (maxN x l))
      (rOp (some 9) (.load1 (.r 2)) (by kernel_rfl) (load1_of (id := j) (off := 0) (by kernel_rfl) hj rfl)
      (rOp (some 10) (.toInt .u64 (.r 9)) (by kernel_rfl) (toInt_of (k' := .u32) (A := Int.ofNat m) (R := Int.ofNat m) (by kernel_rfl) (wn m hm))
      (rOp (some 11) (.maxmin false (.r 8) [.r 10]) (by kernel_rfl) (min_of (k := .u64) (A := Int.ofNat (max x l)) (B := Int.ofNat m) (R := Int.ofNat (min (max x l) m)) (by kernel_rfl) (by kernel_rfl) (minN _ m))
      (rEnd (by kernel_rfl)))))))))) (kRun .ret (by kernel_rfl))), by kernel_rfl, by kernel_rfl, by kernel_rfl⟩
  exact fnOf c28 (by kernel_rfl) (by kernel_rfl) e1 (.inr rfl) e2 e3 e4

theorem callv28 {g : RT} {h : AH} {f y : Opd} {x l m : Nat} (hf : f.ev g = .func (.func 28) [] [.ptr 34 0, .ptr 35 0]) (hy : y.ev g = u x) (hi : h.get 34 = some (.row 1 [.int .u32 (Int.ofNat l)] .closed)) (hj : h.get 35 = some (.row 1 [.int .u32 (Int.ofNat m)] .closed)) (hl : l < 4294967296) (hm : m < 4294967296) :
    evOper nY H8 (.callv f [y]) g h = some (u (min (max x l) m), h) := by
  have e : evOper nY H8 (.callv f [y]) g h = H8 nY 28 [u x, .ptr 34 0, .ptr 35 0] h := by
    simp only [evOper, hf, List.map_cons, List.map_nil, hy]
    rfl
  rw [e]
  exact (evP_step (by rfl) (by decide)).trans (st28 _ _ h 34 35 x l m hi hj hl hm)

def LR (sl : AV) (m i : Nat) : List (Nat × AV) := [(9, .ptr 36 0), (10, .func (.func 28) [] [.ptr 34 0, .ptr 35 0]), (11, .ptr 37 0), (43, sl), (44, .int .i64 (Int.ofNat m)), (45, .int .i64 (Int.ofNat i))]
def cellsC (l m w e o : Nat) (any : Bool) : List AV := [u l, u m, u w, u e, u o, .bool any]
def LH (cs : List AV) (l m w e o : Nat) (any : Bool) : List (Nat × AO) := tl0 ++ [(33, .row 1 cs .ro), (34, .row 1 [.int .u32 (Int.ofNat l)] .closed), (35, .row 1 [.int .u32 (Int.ofNat m)] .closed), (36, .row 1 (cellsC l m w e o any) .closed), (37, .row 1 (cellsC l m w e o any) .closed)]
def LS0 (sl : AV) (cs : List AV) (n i l m w e o : Nat) (any : Bool) (js : Nat → AV) : St := (full 7 (ov (LR sl n i) js), ⟨38, 32, [], mkT (LH cs l m w e o any)⟩)

/-- what a round leaves -/
structure After (sl : AV) (cs : List AV) (n i l m w e o : Nat) (any : Bool) (s : St) : Prop where
  marks : s.2.marks = []
  floor : s.2.floor = 32
  next : Nat.ble s.2.next far = true
  r9 : s.1.geti 9 = .ptr 36 0
  r10 : s.1.geti 10 = .func (.func 28) [] [.ptr 34 0, .ptr 35 0]
  r11 : s.1.geti 11 = .ptr 37 0
  r43 : s.1.geti 43 = sl
  r44 : s.1.geti 44 = .int .i64 (Int.ofNat n)
  r45 : s.1.geti 45 = .int .i64 (Int.ofNat i)
  tabs : ∀ p, p ∈ tl0 → s.2.get p.1 = some p.2
  o33 : s.2.get 33 = some (.row 1 cs .ro)
  o34 : s.2.get 34 = some (.row 1 [.int .u32 (Int.ofNat l)] .closed)
  o35 : s.2.get 35 = some (.row 1 [.int .u32 (Int.ofNat m)] .closed)
  o36 : s.2.get 36 = some (.row 1 (cellsC l m w e o any) .closed)
  o37 : s.2.get 37 = some (.row 1 (cellsC l m w e o any) .closed)

def XB : AC := c7.body.r.r.r.r.r.l.r.l.l

theorem tabs_of {h : AH} : ∀ {l : List (Nat × AO)}, l.map (fun p => h.get p.1) = l.map (fun p => some p.2) → ∀ p, p ∈ l → h.get p.1 = some p.2
  | [], _, p, hp => nomatch hp
  | q :: l, e, p, hp => by
    simp only [List.map_cons, List.cons.injEq] at e
    cases hp with
    | head => exact e.1
    | tail _ hp => exact tabs_of e.2 p hp

theorem eqC (l m w e o : Nat) (any : Bool) : (!((Int.ofNat l == Int.ofNat l) && ((Int.ofNat m == Int.ofNat m) && ((Int.ofNat w == Int.ofNat w) && ((Int.ofNat e == Int.ofNat e) && ((Int.ofNat o == Int.ofNat o) && ((any == any) && true))))))) = false := by simp

theorem round_end (sl : AV) (cs : List AV) (n l m w e o : Nat) (any : Bool) (js : Nat → AV) : ∃ s1, evCode H8 1000000 false nY XB (LS0 sl cs n n l m w e o any js) = some (.exit 0, s1) ∧ After sl cs n n l m w e o any s1 := by
  have hlt : decide (Int.ofNat n < Int.ofNat n) = false := decide_eq_false (Int.lt_irrefl _)
  refine ⟨_, kSeq (by kernel_rfl) (kRun .normal (by kernel_rfl)) (kSeqX (by kernel_rfl) (kCondF (decide (Int.ofNat n < Int.ofNat n)) (by kernel_rfl) (by kernel_rfl) hlt (kRun (.exit 0) (by kernel_rfl))) (by intro h; cases h)), ?_⟩
  exact ⟨by kernel_rfl, by kernel_rfl, by kernel_rfl, by kernel_rfl, by kernel_rfl, by kernel_rfl, by kernel_rfl, by kernel_rfl, by kernel_rfl, tabs_of (by kernel_rfl), by kernel_rfl, by kernel_rfl, by kernel_rfl, by kernel_rfl, by kernel_rfl⟩

theorem round_late (cs : List AV) (n c i l m w e o wh A B N : Nat) (any : Bool) (js : Nat → AV) (hi : i < n) (hn : n ≤ 60) (hcs : (cs.drop (i * 4)).take 4 = [.int .u8 (Int.ofNat wh), .int .u8 (Int.ofNat A), .int .u8 (Int.ofNat B), .int .u16 (Int.ofNat N)])
    (hl : l < 4294967296) (hm : m < 4294967296) (hw : w < 4294967296) (h3 : wh % 3 = 0) :
    ∃ s1, evCode H8 1000000 false nY XB (LS0 (.slice 33 0 n (.fixed c)) cs n i l m w e o any js) = some (.normal, s1) ∧ After (.slice 33 0 n (.fixed c)) cs n (i + 1) l m (min (max (w + w) l) m) e o any s1 := by
  have hlt : decide (Int.ofNat i < Int.ofNat n) = true := decide_eq_true (by show (i : Int) < (n : Int); omega)
  have hz : (Int.ofNat (wh % 3) == 0) = true := by rw [h3]; rfl
  have hww : IntKind.u64.wrap (2 * Int.ofNat w) = Int.ofNat (w + w) := by
    have : (2 : Int) * Int.ofNat w = ((w + w : Nat) : Int) := by show (2 : Int) * (w : Int) = _; omega
    rw [this]
    exact u64_of (by omega) (by omega)
  have hi1 : IntKind.i64.wrap (Int.ofNat i + 1) = Int.ofNat (i + 1) := i64_of (by show _ ≤ (i : Int) + 1; omega) (by show (i : Int) + 1 < _; omega)
  refine ⟨_, kSeq (by kernel_rfl) (kRun .normal (by kernel_rfl)) (kSeq (by kernel_rfl) (kCondT (decide (Int.ofNat i < Int.ofNat n)) (by kernel_rfl) (by kernel_rfl) hlt (kRun .normal (by kernel_rfl)))
    (kSeq (by kernel_rfl) (kBlock 1 (by kernel_rfl)
      (kSeq (by kernel_rfl) (kOps (by kernel_rfl) (rOp (some 47) (.indexSl 4 (.r 43) (.r 45)) (by kernel_rfl) (indexSl_of (id := 33) (off := 0) (len := n) (i := i) (c := .fixed c) (k := .i64) (by kernel_rfl) (by kernel_rfl) hi)
          (rOp (some 48) (.loadN 4 (.r 47)) (by kernel_rfl) (loadN_of (id := 33) (off := 0 + i * 4) (e := 1) (cs := cs) (k := .ro) (vs := [.int .u8 (Int.ofNat wh), .int .u8 (Int.ofNat A), .int .u8 (Int.ofNat B), .int .u16 (Int.ofNat N)]) (by kernel_rfl) (by kernel_rfl) (by rw [Nat.zero_add]; exact hcs) rfl (by decide)) (rEnd (by kernel_rfl)))))
      (kSeq (by kernel_rfl) (kSeq (by kernel_rfl) (kOps (by kernel_rfl) (rSeg 2 (by kernel_rfl) (rOp (some 51) (.bin .rem (.r 50) (.c (.int .u8 (.ofNat 3)))) (by kernel_rfl) (bin_rem (k := .u8) (A := Int.ofNat wh) (B := 3) (R := Int.ofNat (wh % 3)) (by kernel_rfl) (by kernel_rfl) (by decide) rfl) (rEnd (by kernel_rfl)))))
        (kCondT (Int.ofNat (wh % 3) == 0) (by kernel_rfl) (by kernel_rfl) hz
          (kSeq (by kernel_rfl) (kOps (by kernel_rfl) (rSeg 1 (by kernel_rfl) (rCall (some 54) 29 [.r 53] [clkN l m w e o any] (by kernel_rfl) (by kernel_rfl) (own29 5 _ _ l m w e o any (by omega)) (rEnd (by kernel_rfl)))))
            (kOps (by kernel_rfl) (rSeg 3 (by kernel_rfl) (rOp (some 58) (.bin .mul (.c (.int .u64 (.ofNat 2))) (.r 57)) (by kernel_rfl) (bin_mul (k := .u64) (A := 2) (B := Int.ofNat w) (R := Int.ofNat (w + w)) (by kernel_rfl) (by kernel_rfl) hww)
              (rOp (some 59) (.callv (.r 55) [.r 58]) (by kernel_rfl) (callv28 (x := w + w) (l := l) (m := m) (by kernel_rfl) (by kernel_rfl) (by kernel_rfl) (by kernel_rfl) hl hm) (rEnd (by kernel_rfl)))))))))
      (kSeq (by kernel_rfl) (kOps (by kernel_rfl) (rEnd (by kernel_rfl))) (kCondF (!((Int.ofNat l == Int.ofNat l) && ((Int.ofNat m == Int.ofNat m) && ((Int.ofNat (min (max (w + w) l) m) == Int.ofNat (min (max (w + w) l) m)) && ((Int.ofNat e == Int.ofNat e) && ((Int.ofNat o == Int.ofNat o) && ((any == any) && true))))))) (by kernel_rfl) (by kernel_rfl) (eqC _ _ _ _ _ _) (kRun .normal (by kernel_rfl)))))))
    (kOps (by kernel_rfl) (rOp (some 114) (.bin .add (.r 45) (.c (.int .i64 (.ofNat 1)))) (by kernel_rfl) (bin_add (k := .i64) (A := Int.ofNat i) (B := 1) (R := Int.ofNat (i + 1)) (by kernel_rfl) (by kernel_rfl) hi1) (rEnd (by kernel_rfl)))))), ?_⟩
  exact ⟨by kernel_rfl, by kernel_rfl, by kernel_rfl, by kernel_rfl, by kernel_rfl, by kernel_rfl, by kernel_rfl, by kernel_rfl, by kernel_rfl, tabs_of (by kernel_rfl), by kernel_rfl, by kernel_rfl, by kernel_rfl, by kernel_rfl, by kernel_rfl⟩

theorem shift_small {N A : Nat} (hN : N < 65536) : N * 2 ^ (A % 24) < 1099511627776 := by
  have h1 : 2 ^ (A % 24) ≤ 2 ^ 23 := Nat.pow_le_pow_right (by decide) (by omega)
  have h2 : N * 2 ^ (A % 24) ≤ N * 2 ^ 23 := Nat.mul_le_mul_left N h1
  omega
theorem shlN {N a : Nat} (hx : N * 2 ^ (a % 24) < 1099511627776) : IntKind.u64.wrap (Int.ofNat N * 2 ^ (min (Int.toNat (Int.ofNat (a % 24))) IntKind.u64.bits)) = Int.ofNat (N * 2 ^ (a % 24)) := by
  have hb : min (Int.toNat (Int.ofNat (a % 24))) IntKind.u64.bits = a % 24 := by
    show min (a % 24) 64 = a % 24
    omega
  have e : Int.ofNat N * 2 ^ (a % 24) = ((N * 2 ^ (a % 24) : Nat) : Int) := by
    rw [Int.natCast_mul, Int.natCast_pow]
    rfl
  rw [hb, e]
  exact u64_of (by omega) (by omega)
theorem shlN_lt (a : Nat) : 0 ≤ Int.ofNat a := by
  show 0 ≤ (a : Int)
  omega
theorem mulN (k a : Nat) (h : a * k < 18446744073709551616) : IntKind.u64.wrap (((k : Nat) : Int) * Int.ofNat a) = Int.ofNat (a * k) := by
  have e : ((k : Nat) : Int) * Int.ofNat a = ((a * k : Nat) : Int) := by
    rw [Nat.mul_comm, Int.natCast_mul]
    rfl
  rw [e]
  exact u64_of (by omega) (by omega)
theorem addN (a b : Nat) (h : a + b < 18446744073709551616) : IntKind.u64.wrap (Int.ofNat a + Int.ofNat b) = Int.ofNat (a + b) := by
  have e : Int.ofNat a + Int.ofNat b = ((a + b : Nat) : Int) := rfl
  rw [e]
  exact u64_of (by omega) (by omega)
theorem sub3 (a b c : Nat) (h : c ≤ b) (h2 : a + b < 18446744073709551616) : IntKind.u64.wrap (Int.ofNat (a + b) - Int.ofNat c) = Int.ofNat (a + (b - c)) := by
  have e : Int.ofNat (a + b) - Int.ofNat c = ((a + (b - c) : Nat) : Int) := by
    show ((a + b : Nat) : Int) - (c : Int) = _
    omega
  rw [e]
  exact u64_of (by omega) (by omega)
theorem quoN (k x : Nat) (h : x < 18446744073709551616) : IntKind.u64.wrap ((Int.ofNat x).tdiv ((k : Nat) : Int)) = Int.ofNat (x / k) := by
  show IntKind.u64.wrap (((x / k : Nat)) : Int) = ((x / k : Nat) : Int)
  have := Nat.div_le_self x k
  generalize x / k = q at *
  exact u64_of (by omega) (by omega)
theorem max1 (x : Nat) : max (Int.ofNat x) 1 = Int.ofNat (max 1 x) := by
  show max (x : Int) 1 = ((max 1 x : Nat) : Int)
  omega

theorem round_came_t (cs : List AV) (n c i l m w e o wh A B N : Nat) (js : Nat → AV) (hi : i < n) (hn : n ≤ 60) (hcs : (cs.drop (i * 4)).take 4 = [.int .u8 (Int.ofNat wh), .int .u8 (Int.ofNat A), .int .u8 (Int.ofNat B), .int .u16 (Int.ofNat N)])
    (hl : l < 4294967296) (hm : m < 4294967296) (he : e < 1099511627776) (ho : o < 1099511627776) (hN : N < 65536) (h3 : wh % 3 ≠ 0) :
    ∃ s1, evCode H8 1000000 false nY XB (LS0 (.slice 33 0 n (.fixed c)) cs n i l m w e o true js) = some (.normal, s1) ∧ After (.slice 33 0 n (.fixed c)) cs n (i + 1) l m (min (max (((e * 7 + (N * 2 ^ (A % 24))) / 8) + (max 1 (((o * 3 + (max e (N * 2 ^ (A % 24)) - min e (N * 2 ^ (A % 24)))) / 4) * 4))) l) m) ((e * 7 + (N * 2 ^ (A % 24))) / 8) ((o * 3 + (max e (N * 2 ^ (A % 24)) - min e (N * 2 ^ (A % 24)))) / 4) true s1 := by
  have hx : (N * 2 ^ (A % 24)) < 1099511627776 := shift_small hN
  have hlt : decide (Int.ofNat i < Int.ofNat n) = true := decide_eq_true (by show (i : Int) < (n : Int); omega)
  have hz : (Int.ofNat (wh % 3) == 0) = false := by
    apply beq_eq_false_iff_ne.2
    intro q
    exact h3 (Int.ofNat.inj q)
  have wn : ∀ a : Nat, a < 4294967296 → IntKind.u64.wrap (Int.ofNat a) = Int.ofNat a := fun a ha => u64_of (by show (0 : Int) ≤ (a : Int); omega) (by show (a : Int) < _; omega)
  have hshl : IntKind.u64.wrap (Int.ofNat N * 2 ^ (min (Int.toNat (Int.ofNat (A % 24))) IntKind.u64.bits)) = Int.ofNat (N * 2 ^ (A % 24)) := shlN hx
  have hi1 : IntKind.i64.wrap (Int.ofNat i + 1) = Int.ofNat (i + 1) := i64_of (by show _ ≤ (i : Int) + 1; omega) (by show (i : Int) + 1 < _; omega)
  generalize (N * 2 ^ (A % 24)) = x at *
  refine ⟨_, kSeq (by kernel_rfl) (kRun .normal (by kernel_rfl)) (kSeq (by kernel_rfl) (kCondT (decide (Int.ofNat i < Int.ofNat n)) (by kernel_rfl) (by kernel_rfl) hlt (kRun .normal (by kernel_rfl)))
    (kSeq (by kernel_rfl) (kBlock 1 (by kernel_rfl)
      (kSeq (by kernel_rfl) (kOps (by kernel_rfl) (rOp (some 47) (.indexSl 4 (.r 43) (.r 45)) (by kernel_rfl) (indexSl_of (id := 33) (off := 0) (len := n) (i := i) (c := .fixed c) (k := .i64) (by kernel_rfl) (by kernel_rfl) hi)
          (rOp (some 48) (.loadN 4 (.r 47)) (by kernel_rfl) (loadN_of (id := 33) (off := 0 + i * 4) (e := 1) (cs := cs) (k := .ro) (vs := [.int .u8 (Int.ofNat wh), .int .u8 (Int.ofNat A), .int .u8 (Int.ofNat B), .int .u16 (Int.ofNat N)]) (by kernel_rfl) (by kernel_rfl) (by rw [Nat.zero_add]; exact hcs) rfl (by decide)) (rEnd (by kernel_rfl)))))
      (kSeq (by kernel_rfl) (kSeq (by kernel_rfl) (kOps (by kernel_rfl) (rSeg 2 (by kernel_rfl) (rOp (some 51) (.bin .rem (.r 50) (.c (.int .u8 (.ofNat 3)))) (by kernel_rfl) (bin_rem (k := .u8) (A := Int.ofNat wh) (B := 3) (R := Int.ofNat (wh % 3)) (by kernel_rfl) (by kernel_rfl) (by decide) rfl) (rEnd (by kernel_rfl)))))
        (kCondF (Int.ofNat (wh % 3) == 0) (by kernel_rfl) (by kernel_rfl) hz
        (kSeq (by kernel_rfl)
        (kOps (by kernel_rfl) (rSeg 2 (by kernel_rfl) (rOp (some 63) (.toInt .u64 (.r 62)) (by kernel_rfl) (toInt_of (k' := .u16) (A := Int.ofNat N) (R := Int.ofNat N) (by kernel_rfl) (wn N (by omega)))
        (rSeg 2 (by kernel_rfl) (rOp (some 66) (.bin .rem (.r 65) (.c (.int .u8 (.ofNat 24)))) (by kernel_rfl) (bin_rem (k := .u8) (A := Int.ofNat A) (B := 24) (R := Int.ofNat (A % 24)) (by kernel_rfl) (by kernel_rfl) (by decide) rfl)
        (rOp (some 67) (.bin .shl (.r 63) (.r 66)) (by kernel_rfl) (bin_shl (k' := .u8) (A := Int.ofNat N) (R := Int.ofNat x) (by kernel_rfl) (by kernel_rfl) (shlN_lt _) hshl)
        (rEnd (by kernel_rfl))))))))
        (kSeq (by kernel_rfl)
        (kOps (by kernel_rfl) (rSeg 2 (by kernel_rfl) (rCall (some 70) 30 [.r 68, .r 69] [clkN l m w e o true, u x] (by kernel_rfl) (by kernel_rfl) (own30t 5 _ _ l m w e o x he ho hx) (rEnd (by kernel_rfl)))))
        (kSeq (by kernel_rfl)
        (kSeq (by kernel_rfl) (kRun .normal (by kernel_rfl)) (kCondT true (by kernel_rfl) (by kernel_rfl) rfl (kSeq (by kernel_rfl)
        (kOps (by kernel_rfl) (rSeg 2 (by kernel_rfl) (rOp (some 75) (.bin .mul (.c (.int .u64 (.ofNat 3))) (.r 74)) (by kernel_rfl) (bin_mul (k := .u64) (A := 3) (B := Int.ofNat o) (R := Int.ofNat (o * 3)) (by kernel_rfl) (by kernel_rfl) (mulN 3 o (by omega)))
        (rSeg 3 (by kernel_rfl) (rOp (some 79) (.maxmin true (.r 77) [.r 78]) (by kernel_rfl) (max_of (k := .u64) (A := Int.ofNat e) (B := Int.ofNat x) (R := Int.ofNat (max e x)) (by kernel_rfl) (by kernel_rfl) (maxN e _))
        (rOp (some 80) (.bin .add (.r 75) (.r 79)) (by kernel_rfl) (bin_add (k := .u64) (A := Int.ofNat (o * 3)) (B := Int.ofNat (max e x)) (R := Int.ofNat (o * 3 + max e x)) (by kernel_rfl) (by kernel_rfl) (addN _ _ (by omega)))
        (rSeg 3 (by kernel_rfl) (rOp (some 84) (.maxmin false (.r 82) [.r 83]) (by kernel_rfl) (min_of (k := .u64) (A := Int.ofNat e) (B := Int.ofNat x) (R := Int.ofNat (min e x)) (by kernel_rfl) (by kernel_rfl) (minN e _))
        (rOp (some 85) (.bin .sub (.r 80) (.r 84)) (by kernel_rfl) (bin_sub (A := Int.ofNat (o * 3 + max e x)) (B := Int.ofNat (min e x)) (R := Int.ofNat (o * 3 + (max e x - min e x))) (by kernel_rfl) (by kernel_rfl) (sub3 _ _ _ (by omega) (by omega)))
        (rOp (some 86) (.bin .quo (.r 85) (.c (.int .u64 (.ofNat 4)))) (by kernel_rfl) (bin_quo (A := Int.ofNat (o * 3 + (max e x - min e x))) (B := 4) (R := Int.ofNat ((o * 3 + (max e x - min e x)) / 4)) (by kernel_rfl) (by kernel_rfl) (by decide) (quoN 4 _ (by omega)))
        (rEnd (by kernel_rfl))))))))))))
        (kOps (by kernel_rfl) (rSeg 2 (by kernel_rfl) (rOp (some 90) (.bin .mul (.c (.int .u64 (.ofNat 7))) (.r 89)) (by kernel_rfl) (bin_mul (k := .u64) (A := 7) (B := Int.ofNat e) (R := Int.ofNat (e * 7)) (by kernel_rfl) (by kernel_rfl) (mulN 7 e (by omega)))
        (rSeg 1 (by kernel_rfl) (rOp (some 92) (.bin .add (.r 90) (.r 91)) (by kernel_rfl) (bin_add (k := .u64) (A := Int.ofNat (e * 7)) (B := Int.ofNat x) (R := Int.ofNat (e * 7 + x)) (by kernel_rfl) (by kernel_rfl) (addN _ _ (by omega)))
        (rOp (some 93) (.bin .quo (.r 92) (.c (.int .u64 (.ofNat 8)))) (by kernel_rfl) (bin_quo (A := Int.ofNat (e * 7 + x)) (B := 8) (R := Int.ofNat ((e * 7 + x) / 8)) (by kernel_rfl) (by kernel_rfl) (by decide) (quoN 8 _ (by omega)))
        (rEnd (by kernel_rfl)))))))))))
        (kOps (by kernel_rfl) (rSeg 5 (by kernel_rfl) (rOp (some 106) (.bin .mul (.c (.int .u64 (.ofNat 4))) (.r 105)) (by kernel_rfl) (bin_mul (k := .u64) (A := 4) (B := Int.ofNat ((o * 3 + (max e x - min e x)) / 4)) (R := Int.ofNat (((o * 3 + (max e x - min e x)) / 4) * 4)) (by kernel_rfl) (by kernel_rfl) (mulN 4 _ (by omega)))
        (rOp (some 107) (.maxmin true (.r 106) [.c (.int .u64 (.ofNat 1))]) (by kernel_rfl) (max_of (k := .u64) (A := Int.ofNat (((o * 3 + (max e x - min e x)) / 4) * 4)) (B := 1) (R := Int.ofNat (max 1 (((o * 3 + (max e x - min e x)) / 4) * 4))) (by kernel_rfl) (by kernel_rfl) (max1 _))
        (rOp (some 108) (.bin .add (.r 103) (.r 107)) (by kernel_rfl) (bin_add (k := .u64) (A := Int.ofNat ((e * 7 + x) / 8)) (B := Int.ofNat (max 1 (((o * 3 + (max e x - min e x)) / 4) * 4))) (R := Int.ofNat (((e * 7 + x) / 8) + (max 1 (((o * 3 + (max e x - min e x)) / 4) * 4)))) (by kernel_rfl) (by kernel_rfl) (addN _ _ (by omega)))
        (rOp (some 109) (.callv (.r 101) [.r 108]) (by kernel_rfl) (callv28 (x := ((e * 7 + x) / 8) + (max 1 (((o * 3 + (max e x - min e x)) / 4) * 4))) (l := l) (m := m) (by kernel_rfl) (by kernel_rfl) (by kernel_rfl) (by kernel_rfl) hl hm)
        (rEnd (by kernel_rfl)))))))))))))
      (kSeq (by kernel_rfl) (kOps (by kernel_rfl) (rEnd (by kernel_rfl))) (kCondF (!((Int.ofNat l == Int.ofNat l) && ((Int.ofNat m == Int.ofNat m) && ((Int.ofNat (min (max (((e * 7 + x) / 8) + (max 1 (((o * 3 + (max e x - min e x)) / 4) * 4))) l) m) == Int.ofNat (min (max (((e * 7 + x) / 8) + (max 1 (((o * 3 + (max e x - min e x)) / 4) * 4))) l) m)) && ((Int.ofNat ((e * 7 + x) / 8) == Int.ofNat ((e * 7 + x) / 8)) && ((Int.ofNat ((o * 3 + (max e x - min e x)) / 4) == Int.ofNat ((o * 3 + (max e x - min e x)) / 4)) && ((true == true) && true))))))) (by kernel_rfl) (by kernel_rfl) (eqC _ _ _ _ _ _) (kRun .normal (by kernel_rfl)))))))
    (kOps (by kernel_rfl) (rOp (some 114) (.bin .add (.r 45) (.c (.int .i64 (.ofNat 1)))) (by kernel_rfl) (bin_add (k := .i64) (A := Int.ofNat i) (B := 1) (R := Int.ofNat (i + 1)) (by kernel_rfl) (by kernel_rfl) hi1) (rEnd (by kernel_rfl)))))), ?_⟩
  exact ⟨by kernel_rfl, by kernel_rfl, by kernel_rfl, by kernel_rfl, by kernel_rfl, by kernel_rfl, by kernel_rfl, by kernel_rfl, by kernel_rfl, tabs_of (by kernel_rfl), by kernel_rfl, by kernel_rfl, by kernel_rfl, by kernel_rfl, by kernel_rfl⟩

theorem round_came_f (cs : List AV) (n c i l m w e o wh A B N : Nat) (js : Nat → AV) (hi : i < n) (hn : n ≤ 60) (hcs : (cs.drop (i * 4)).take 4 = [.int .u8 (Int.ofNat wh), .int .u8 (Int.ofNat A), .int .u8 (Int.ofNat B), .int .u16 (Int.ofNat N)])
    (hl : l < 4294967296) (hm : m < 4294967296) (he : e < 1099511627776) (ho : o < 1099511627776) (hN : N < 65536) (h3 : wh % 3 ≠ 0) :
    ∃ s1, evCode H8 1000000 false nY XB (LS0 (.slice 33 0 n (.fixed c)) cs n i l m w e o false js) = some (.normal, s1) ∧ After (.slice 33 0 n (.fixed c)) cs n (i + 1) l m (min (max ((N * 2 ^ (A % 24)) + (max 1 (((N * 2 ^ (A % 24)) / 2) * 4))) l) m) (N * 2 ^ (A % 24)) ((N * 2 ^ (A % 24)) / 2) true s1 := by
  have hx : (N * 2 ^ (A % 24)) < 1099511627776 := shift_small hN
  have hlt : decide (Int.ofNat i < Int.ofNat n) = true := decide_eq_true (by show (i : Int) < (n : Int); omega)
  have hz : (Int.ofNat (wh % 3) == 0) = false := by
    apply beq_eq_false_iff_ne.2
    intro q
    exact h3 (Int.ofNat.inj q)
  have wn : ∀ a : Nat, a < 4294967296 → IntKind.u64.wrap (Int.ofNat a) = Int.ofNat a := fun a ha => u64_of (by show (0 : Int) ≤ (a : Int); omega) (by show (a : Int) < _; omega)
  have hshl : IntKind.u64.wrap (Int.ofNat N * 2 ^ (min (Int.toNat (Int.ofNat (A % 24))) IntKind.u64.bits)) = Int.ofNat (N * 2 ^ (A % 24)) := shlN hx
  have hi1 : IntKind.i64.wrap (Int.ofNat i + 1) = Int.ofNat (i + 1) := i64_of (by show _ ≤ (i : Int) + 1; omega) (by show (i : Int) + 1 < _; omega)
  generalize (N * 2 ^ (A % 24)) = x at *
  refine ⟨_, kSeq (by kernel_rfl) (kRun .normal (by kernel_rfl)) (kSeq (by kernel_rfl) (kCondT (decide (Int.ofNat i < Int.ofNat n)) (by kernel_rfl) (by kernel_rfl) hlt (kRun .normal (by kernel_rfl)))
    (kSeq (by kernel_rfl) (kBlock 1 (by kernel_rfl)
      (kSeq (by kernel_rfl) (kOps (by kernel_rfl) (rOp (some 47) (.indexSl 4 (.r 43) (.r 45)) (by kernel_rfl) (indexSl_of (id := 33) (off := 0) (len := n) (i := i) (c := .fixed c) (k := .i64) (by kernel_rfl) (by kernel_rfl) hi)
          (rOp (some 48) (.loadN 4 (.r 47)) (by kernel_rfl) (loadN_of (id := 33) (off := 0 + i * 4) (e := 1) (cs := cs) (k := .ro) (vs := [.int .u8 (Int.ofNat wh), .int .u8 (Int.ofNat A), .int .u8 (Int.ofNat B), .int .u16 (Int.ofNat N)]) (by kernel_rfl) (by kernel_rfl) (by rw [Nat.zero_add]; exact hcs) rfl (by decide)) (rEnd (by kernel_rfl)))))
      (kSeq (by kernel_rfl) (kSeq (by kernel_rfl) (kOps (by kernel_rfl) (rSeg 2 (by kernel_rfl) (rOp (some 51) (.bin .rem (.r 50) (.c (.int .u8 (.ofNat 3)))) (by kernel_rfl) (bin_rem (k := .u8) (A := Int.ofNat wh) (B := 3) (R := Int.ofNat (wh % 3)) (by kernel_rfl) (by kernel_rfl) (by decide) rfl) (rEnd (by kernel_rfl)))))
        (kCondF (Int.ofNat (wh % 3) == 0) (by kernel_rfl) (by kernel_rfl) hz
        (kSeq (by kernel_rfl)
        (kOps (by kernel_rfl) (rSeg 2 (by kernel_rfl) (rOp (some 63) (.toInt .u64 (.r 62)) (by kernel_rfl) (toInt_of (k' := .u16) (A := Int.ofNat N) (R := Int.ofNat N) (by kernel_rfl) (wn N (by omega)))
        (rSeg 2 (by kernel_rfl) (rOp (some 66) (.bin .rem (.r 65) (.c (.int .u8 (.ofNat 24)))) (by kernel_rfl) (bin_rem (k := .u8) (A := Int.ofNat A) (B := 24) (R := Int.ofNat (A % 24)) (by kernel_rfl) (by kernel_rfl) (by decide) rfl)
        (rOp (some 67) (.bin .shl (.r 63) (.r 66)) (by kernel_rfl) (bin_shl (k' := .u8) (A := Int.ofNat N) (R := Int.ofNat x) (by kernel_rfl) (by kernel_rfl) (shlN_lt _) hshl)
        (rEnd (by kernel_rfl))))))))
        (kSeq (by kernel_rfl)
        (kOps (by kernel_rfl) (rSeg 2 (by kernel_rfl) (rCall (some 70) 30 [.r 68, .r 69] [clkN l m w e o false, u x] (by kernel_rfl) (by kernel_rfl) (own30f 5 _ _ l m w e o x hx) (rEnd (by kernel_rfl)))))
        (kSeq (by kernel_rfl)
        (kSeq (by kernel_rfl) (kRun .normal (by kernel_rfl)) (kCondF false (by kernel_rfl) (by kernel_rfl) rfl (kOps (by kernel_rfl) (rSeg 2 (by kernel_rfl) (rOp (some 97) (.bin .quo (.r 96) (.c (.int .u64 (.ofNat 2)))) (by kernel_rfl) (bin_quo (A := Int.ofNat x) (B := 2) (R := Int.ofNat (x / 2)) (by kernel_rfl) (by kernel_rfl) (by decide) (quoN 2 _ (by omega)))
        (rEnd (by kernel_rfl)))))))
        (kOps (by kernel_rfl) (rSeg 5 (by kernel_rfl) (rOp (some 106) (.bin .mul (.c (.int .u64 (.ofNat 4))) (.r 105)) (by kernel_rfl) (bin_mul (k := .u64) (A := 4) (B := Int.ofNat (x / 2)) (R := Int.ofNat ((x / 2) * 4)) (by kernel_rfl) (by kernel_rfl) (mulN 4 _ (by omega)))
        (rOp (some 107) (.maxmin true (.r 106) [.c (.int .u64 (.ofNat 1))]) (by kernel_rfl) (max_of (k := .u64) (A := Int.ofNat ((x / 2) * 4)) (B := 1) (R := Int.ofNat (max 1 ((x / 2) * 4))) (by kernel_rfl) (by kernel_rfl) (max1 _))
        (rOp (some 108) (.bin .add (.r 103) (.r 107)) (by kernel_rfl) (bin_add (k := .u64) (A := Int.ofNat x) (B := Int.ofNat (max 1 ((x / 2) * 4))) (R := Int.ofNat (x + (max 1 ((x / 2) * 4)))) (by kernel_rfl) (by kernel_rfl) (addN _ _ (by omega)))
        (rOp (some 109) (.callv (.r 101) [.r 108]) (by kernel_rfl) (callv28 (x := x + (max 1 ((x / 2) * 4))) (l := l) (m := m) (by kernel_rfl) (by kernel_rfl) (by kernel_rfl) (by kernel_rfl) hl hm)
        (rEnd (by kernel_rfl)))))))))))))
      (kSeq (by kernel_rfl) (kOps (by kernel_rfl) (rEnd (by kernel_rfl))) (kCondF (!((Int.ofNat l == Int.ofNat l) && ((Int.ofNat m == Int.ofNat m) && ((Int.ofNat (min (max (x + (max 1 ((x / 2) * 4))) l) m) == Int.ofNat (min (max (x + (max 1 ((x / 2) * 4))) l) m)) && ((Int.ofNat x == Int.ofNat x) && ((Int.ofNat (x / 2) == Int.ofNat (x / 2)) && ((true == true) && true))))))) (by kernel_rfl) (by kernel_rfl) (eqC _ _ _ _ _ _) (kRun .normal (by kernel_rfl)))))))
    (kOps (by kernel_rfl) (rOp (some 114) (.bin .add (.r 45) (.c (.int .i64 (.ofNat 1)))) (by kernel_rfl) (bin_add (k := .i64) (A := Int.ofNat i) (B := 1) (R := Int.ofNat (i + 1)) (by kernel_rfl) (by kernel_rfl) hi1) (rEnd (by kernel_rfl)))))), ?_⟩
  exact ⟨by kernel_rfl, by kernel_rfl, by kernel_rfl, by kernel_rfl, by kernel_rfl, by kernel_rfl, by kernel_rfl, by kernel_rfl, by kernel_rfl, tabs_of (by kernel_rfl), by kernel_rfl, by kernel_rfl, by kernel_rfl, by kernel_rfl, by kernel_rfl⟩
end Go.Am
