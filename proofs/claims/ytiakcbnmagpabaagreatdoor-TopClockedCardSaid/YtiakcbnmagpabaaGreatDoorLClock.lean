/- The clock's functions, in the abstract machine. -/
import Derived.Test.YtiakcbnmagpabaaGreatDoorAmH
import Derived.Test.YtiakcbnmagpabaaGreatDoorA6
namespace Go.Am

def fsC (f : FuncId) : Bool := Nat.beq f 27 || Nat.beq f 29 || Nat.beq f 30 || Nat.beq f 59
noncomputable abbrev HC (n : Nat) : CallH := evP fsC 12 t0 ctab.fget 1000000 n

def mx (a b : Int) : Int := if b > a then b else a
def mn (a b : Int) : Int := if b < a then b else a
def clk (l m w e o : Int) (any : Bool) : AV := .agg [.int .u64 l, .int .u64 m, .int .u64 w, .int .u64 e, .int .u64 o, .bool any]
def u (n : Nat) : AV := .int .u64 (Int.ofNat n)

theorem st59 (n : Nat) (l m w e o x : Int) (any : Bool) : (stepFn ctab.fget 1000000 (HC (n + 1)) (fun _ => none) 59 [clk l m w e o any, .int .u64 x] ownH).map (·.1) = some (clk l m (mn (mx x l) m) e o any) := by kernel_rfl
theorem own59 (n : Nat) (Y : YH) (h : AH) (l m w e o x : Int) (any : Bool) : HC (n + 2) Y 59 [clk l m w e o any, .int .u64 x] h = some (clk l m (mn (mx x l) m) e o any, h) := by
  have q := st59 n l m w e o x any
  cases hs : stepFn ctab.fget 1000000 (HC (n + 1)) (fun _ => none) 59 [clk l m w e o any, .int .u64 x] ownH with
  | none => rw [hs] at q; cases q
  | some r =>
    obtain ⟨v, h1⟩ := r
    rw [hs] at q
    simp only [Option.map_some, Option.some.injEq] at q
    subst q
    exact evP_own rfl (by decide) rfl hs rfl

/-- plus -/
theorem add64_eq (Y : YH) (H : CallH) (g : RT) (h : AH) (x y z : Opd) (a b : Nat) (hx : x.ev g = u a) (hy : y.ev g = u b) (hz : z.ev g = u 0) (hs : a + b < 18446744073709551616) :
    evOper Y H (.add64 x y z) g h = some (.tuple [u (a + b), u 0], h) := by
  simp only [evOper, evOp, hx, hy, hz, u]
  rw [if_pos ⟨by simp, by simp, by simp, by simp⟩]
  congr 5
  · congr 1
    show ((a : Int) + b + 0) % 18446744073709551616 = ((a + b : Nat) : Int)
    omega
  · congr 2
    show ((a : Int) + b + 0) / 18446744073709551616 = 0
    omega

theorem st60 (H : CallH) (Y : YH) (h : AH) (a b : Nat) (hs : a + b < 18446744073709551616) : stepFn ctab.fget 1000000 H Y 60 [u a, u b] h = some (u (a + b), h) := by
  obtain ⟨s1, e1, e2, e3, e4⟩ : ∃ s1, evCode H 1000000 false Y c60.body (argRegs [u a, u b] 0 .nil, { h with marks := [] }) = some (.ret, s1) ∧ s1.2.marks = [] ∧ (evRVs s1.1 s1.2 c60.results).map retV = some (u (a + b)) ∧ { s1.2 with marks := h.marks } = h :=
    ⟨_, kSeq (by kernel_rfl) (kRun .normal (by kernel_rfl)) (kSeq (by kernel_rfl) (kOps (by kernel_rfl) (rSeg 2 (by kernel_rfl) (rOp (some 10) (.add64 (.r 8) (.r 9) (.c (.int .u64 (.ofNat 0)))) (by kernel_rfl)
      (add64_eq Y H _ _ (.r 8) (.r 9) (.c (.int .u64 (.ofNat 0))) a b (by kernel_rfl) (by kernel_rfl) (by kernel_rfl) hs) (rEnd (by kernel_rfl))))) (kRun .ret (by kernel_rfl))), by kernel_rfl, by kernel_rfl, by kernel_rfl⟩
  exact fnOf c60 (by kernel_rfl) (by kernel_rfl) e1 (.inr rfl) e2 e3 e4

/-! ### Mul64, Div64 -/
def W (x : Int) : Int := IntKind.u64.wrap x
def band (x : Int) : Int := IntKind.u64.wrap ((BitVec.ofInt IntKind.u64.bits x &&& BitVec.ofInt IntKind.u64.bits 4294967295).toNat : Nat)
def bshr (x : Int) : Int := x.fdiv (2 ^ 32)
theorem W_nat (x : Nat) (h : x < 18446744073709551616) : W (x : Int) = (x : Int) := by
  unfold W
  rw [IntKind.wrap_u64]
  omega
theorem bshr_nat (x : Nat) : bshr (x : Int) = ((x / 4294967296 : Nat) : Int) := by
  unfold bshr
  rw [Int.fdiv_eq_ediv_of_nonneg _ (by decide)]
  rfl
theorem bitsOf_nat (k : IntKind) (x : Nat) (h : x < 2 ^ k.bits) : bitsOf k (x : Int) = x := by
  unfold bitsOf
  rw [← Int.natCast_emod, Int.toNat_natCast]
  exact Nat.mod_eq_of_lt h
theorem pow64 : 2 ^ IntKind.u64.bits = 18446744073709551616 := by kernel_rfl
theorem bsm : bitsOf .u64 4294967295 = 2 ^ 32 - 1 := by kernel_rfl
theorem land_nat (x : Nat) (h : x < 2 ^ IntKind.u64.bits) (y : Int) : (BitVec.ofInt IntKind.u64.bits (x : Int) &&& BitVec.ofInt IntKind.u64.bits y).toNat = x &&& bitsOf .u64 y := by
  rw [BitVec.toNat_and, toNat_ofInt', toNat_ofInt', bitsOf_nat _ x h]
theorem band_nat (x : Nat) (h : x < 18446744073709551616) : band (x : Int) = ((x % 4294967296 : Nat) : Int) := by
  unfold band
  rw [land_nat x (pow64.symm ▸ h) 4294967295, bsm, Nat.and_two_pow_sub_one_eq_mod]
  exact W_nat _ (Nat.lt_of_le_of_lt (Nat.mod_le _ _) h)

def mulHi (a t : Int) : Int := W (W (W (bshr a * bshr t) + bshr (W (W (bshr a * band t) + bshr (W (band a * band t))))) + bshr (W (band (W (W (bshr a * band t) + bshr (W (band a * band t)))) + W (band a * bshr t))))
theorem st92 (H : CallH) (Y : YH) (h : AH) (a t : Int) : stepFn ctab.fget 1000000 H Y 92 [.int .u64 a, .int .u64 t] h = some (.tuple [.int .u64 (mulHi a t), .int .u64 (W (a * t))], h) := by kernel_rfl
theorem split_mul (a t M : Nat) : a / M * t * M + a % M * t = a * t := by
  rw [Nat.mul_right_comm, ← Nat.add_mul, Nat.mul_comm (a / M) M, Nat.div_add_mod]
theorem mulHi_small (a t : Nat) (ht : t < 4294967296) (h : a * t < 18446744073709551616) (ha : a < 18446744073709551616) : mulHi a t = 0 := by
  have e1 : a / 4294967296 * 4294967296 + a % 4294967296 = a := by omega
  have hxt : a % 4294967296 * t ≤ a * t := Nat.mul_le_mul_right t (Nat.mod_le _ _)
  have hyt : a / 4294967296 * t ≤ a * t := Nat.mul_le_mul_right t (Nat.div_le_self _ _)
  have hsum : a / 4294967296 * t * 4294967296 + a % 4294967296 * t = a * t := split_mul a t 4294967296
  generalize hX : a / 4294967296 * t = X at *
  generalize hZ : a % 4294967296 * t = Z at *
  have ht1 : t / 4294967296 = 0 := by omega
  have ht2 : t % 4294967296 = t := by omega
  unfold mulHi
  have hbt : band (t : Int) = (t : Int) := by rw [band_nat t (by omega), ht2]
  have hst : bshr (t : Int) = 0 := by rw [bshr_nat, ht1]; rfl
  rw [hbt, hst, bshr_nat a, band_nat a ha]
  have c1 : ((a % 4294967296 : Nat) : Int) * (t : Int) = (Z : Nat) := by rw [← hZ]; simp
  have c2 : ((a / 4294967296 : Nat) : Int) * (t : Int) = (X : Nat) := by rw [← hX]; simp
  rw [c1, c2, Int.mul_zero, Int.mul_zero, W_nat Z (by omega), W_nat X (by omega), bshr_nat]
  have c3 : ((X : Nat) : Int) + ((Z / 4294967296 : Nat) : Int) = ((X + Z / 4294967296 : Nat) : Int) := by simp
  rw [c3, W_nat _ (by omega), bshr_nat, band_nat _ (by omega)]
  have c4 : (X + Z / 4294967296) / 4294967296 = 0 := by omega
  have w0 : W 0 = 0 := W_nat 0 (by decide)
  rw [c4]
  have c5 : (((X + Z / 4294967296) % 4294967296 : Nat) : Int) + W 0 = (((X + Z / 4294967296) % 4294967296 : Nat) : Int) := by rw [w0]; simp
  rw [c5, W_nat _ (by omega), bshr_nat]
  have c6 : (X + Z / 4294967296) % 4294967296 / 4294967296 = 0 := by omega
  rw [c6, w0]
  rfl

theorem st93_4 (H : CallH) (Y : YH) (h : AH) (x : Int) : (stepFn ctab.fget 1000000 H Y 93 [u 0, .int .u64 x, u 4] h) = some (.tuple [.int .u64 (W (x.tdiv 4)), .int .u64 (x.tmod 4)], h) := by kernel_rfl
theorem st93_8 (H : CallH) (Y : YH) (h : AH) (x : Int) : (stepFn ctab.fget 1000000 H Y 93 [u 0, .int .u64 x, u 8] h) = some (.tuple [.int .u64 (W (x.tdiv 8)), .int .u64 (x.tmod 8)], h) := by kernel_rfl

theorem h92 (n : Nat) (Y : YH) (h : AH) (a t : Nat) (ht : t < 4294967296) (hs : a * t < 18446744073709551616) (ha : a < 18446744073709551616) : HC (n + 1) Y 92 [u a, u t] h = some (.tuple [u 0, u (a * t)], h) := by
  refine (evP_step (by rfl) (by decide)).trans ?_
  refine (st92 _ Y h _ _).trans ?_
  have e1 : mulHi (Int.ofNat a) (Int.ofNat t) = 0 := mulHi_small a t ht hs ha
  have e2 : W (Int.ofNat a * Int.ofNat t) = Int.ofNat (a * t) := by
    have := W_nat (a * t) hs
    rw [Int.natCast_mul] at this
    exact this
  rw [e1, e2]
  rfl
theorem h93_4 (n : Nat) (Y : YH) (h : AH) (x : Nat) (hx : x < 18446744073709551616) : HC (n + 1) Y 93 [u 0, u x, u 4] h = some (.tuple [u (x / 4), u (x % 4)], h) := by
  refine (evP_step (by rfl) (by decide)).trans ?_
  refine (st93_4 _ Y h _).trans ?_
  have e1 : W (Int.tdiv (Int.ofNat x) 4) = Int.ofNat (x / 4) := W_nat (x / 4) (by omega)
  rw [e1]
  rfl
theorem h93_8 (n : Nat) (Y : YH) (h : AH) (x : Nat) (hx : x < 18446744073709551616) : HC (n + 1) Y 93 [u 0, u x, u 8] h = some (.tuple [u (x / 8), u (x % 8)], h) := by
  refine (evP_step (by rfl) (by decide)).trans ?_
  refine (st93_8 _ Y h _).trans ?_
  have e1 : W (Int.tdiv (Int.ofNat x) 8) = Int.ofNat (x / 8) := W_nat (x / 8) (by omega)
  rw [e1]
  rfl

theorem st61_3 (n : Nat) (Y : YH) (h : AH) (a b : Nat) (hs : a * 3 + b < 18446744073709551616) : stepFn ctab.fget 1000000 (HC (n + 1)) Y 61 [u a, u 3, u b] h = some (u ((a * 3 + b) / 4), h) := by
  obtain ⟨s1, e1, e2, e3, e4⟩ : ∃ s1, evCode (HC (n + 1)) 1000000 false Y c61.body (argRegs [u a, u 3, u b] 0 .nil, { h with marks := [] }) = some (.ret, s1) ∧ s1.2.marks = [] ∧ (evRVs s1.1 s1.2 c61.results).map retV = some (u ((a * 3 + b) / 4)) ∧ { s1.2 with marks := h.marks } = h :=
    ⟨_, kSeq (by kernel_rfl) (kRun .normal (by kernel_rfl))
      (kSeq (by kernel_rfl) (kOps (by kernel_rfl) (rSeg 2 (by kernel_rfl) (rCall (some 15) 92 [.r 13, .r 14] [u a, u 3] (by kernel_rfl) (by kernel_rfl) (h92 n Y _ a 3 (by decide) (by omega) (by omega)) (rEnd (by kernel_rfl)))))
      (kSeq (by kernel_rfl) (kOps (by kernel_rfl) (rSeg 2 (by kernel_rfl) (rOp (some 21) (.add64 (.r 19) (.r 20) (.c (.int .u64 (.ofNat 0)))) (by kernel_rfl) (add64_eq Y _ _ _ (.r 19) (.r 20) (.c (.int .u64 (.ofNat 0))) (a * 3) b (by kernel_rfl) (by kernel_rfl) (by kernel_rfl) hs) (rEnd (by kernel_rfl)))))
      (kSeq (by kernel_rfl) (kOps (by kernel_rfl) (rSeg 6 (by kernel_rfl) (rCall (some 31) 93 [.r 27, .r 28, .r 30] [u 0, u (a * 3 + b), u 4] (by kernel_rfl) (by kernel_rfl) (h93_4 n Y _ (a * 3 + b) hs) (rEnd (by kernel_rfl)))))
      (kRun .ret (by kernel_rfl))))), by kernel_rfl, by kernel_rfl, by kernel_rfl⟩
  exact fnOf c61 (by kernel_rfl) (by kernel_rfl) e1 (.inr rfl) e2 e3 e4
theorem st61_7 (n : Nat) (Y : YH) (h : AH) (a b : Nat) (hs : a * 7 + b < 18446744073709551616) : stepFn ctab.fget 1000000 (HC (n + 1)) Y 61 [u a, u 7, u b] h = some (u ((a * 7 + b) / 8), h) := by
  obtain ⟨s1, e1, e2, e3, e4⟩ : ∃ s1, evCode (HC (n + 1)) 1000000 false Y c61.body (argRegs [u a, u 7, u b] 0 .nil, { h with marks := [] }) = some (.ret, s1) ∧ s1.2.marks = [] ∧ (evRVs s1.1 s1.2 c61.results).map retV = some (u ((a * 7 + b) / 8)) ∧ { s1.2 with marks := h.marks } = h :=
    ⟨_, kSeq (by kernel_rfl) (kRun .normal (by kernel_rfl))
      (kSeq (by kernel_rfl) (kOps (by kernel_rfl) (rSeg 2 (by kernel_rfl) (rCall (some 15) 92 [.r 13, .r 14] [u a, u 7] (by kernel_rfl) (by kernel_rfl) (h92 n Y _ a 7 (by decide) (by omega) (by omega)) (rEnd (by kernel_rfl)))))
      (kSeq (by kernel_rfl) (kOps (by kernel_rfl) (rSeg 2 (by kernel_rfl) (rOp (some 21) (.add64 (.r 19) (.r 20) (.c (.int .u64 (.ofNat 0)))) (by kernel_rfl) (add64_eq Y _ _ _ (.r 19) (.r 20) (.c (.int .u64 (.ofNat 0))) (a * 7) b (by kernel_rfl) (by kernel_rfl) (by kernel_rfl) hs) (rEnd (by kernel_rfl)))))
      (kSeq (by kernel_rfl) (kOps (by kernel_rfl) (rSeg 6 (by kernel_rfl) (rCall (some 31) 93 [.r 27, .r 28, .r 30] [u 0, u (a * 7 + b), u 8] (by kernel_rfl) (by kernel_rfl) (h93_8 n Y _ (a * 7 + b) hs) (rEnd (by kernel_rfl)))))
      (kRun .ret (by kernel_rfl))))), by kernel_rfl, by kernel_rfl, by kernel_rfl⟩
  exact fnOf c61 (by kernel_rfl) (by kernel_rfl) e1 (.inr rfl) e2 e3 e4

/-! ### the clock -/
def clkN (l m w e o : Nat) (any : Bool) : AV := clk (Int.ofNat l) (Int.ofNat m) (Int.ofNat w) (Int.ofNat e) (Int.ofNat o) any
theorem mnmx (x l m : Nat) : mn (mx (Int.ofNat x) (Int.ofNat l)) (Int.ofNat m) = Int.ofNat (min (max x l) m) := by
  unfold mn mx
  show _ = ((min (max x l) m : Nat) : Int)
  simp only [Int.ofNat_eq_natCast]
  split <;> split <;> omega
theorem own59N (n : Nat) (Y : YH) (h : AH) (l m w e o x : Nat) (any : Bool) : HC (n + 2) Y 59 [clkN l m w e o any, u x] h = some (clkN l m (min (max x l) m) e o any, h) := by
  have q := own59 n Y h (Int.ofNat l) (Int.ofNat m) (Int.ofNat w) (Int.ofNat e) (Int.ofNat o) (Int.ofNat x) any
  rw [mnmx] at q
  exact q
theorem h60 (n : Nat) (Y : YH) (h : AH) (a b : Nat) (hs : a + b < 18446744073709551616) : HC (n + 1) Y 60 [u a, u b] h = some (u (a + b), h) := (evP_step (by rfl) (by decide)).trans (st60 _ Y h a b hs)
theorem h61_3 (n : Nat) (Y : YH) (h : AH) (a b : Nat) (hs : a * 3 + b < 18446744073709551616) : HC (n + 2) Y 61 [u a, u 3, u b] h = some (u ((a * 3 + b) / 4), h) := (evP_step (by rfl) (by decide)).trans (st61_3 n Y h a b hs)
theorem h61_7 (n : Nat) (Y : YH) (h : AH) (a b : Nat) (hs : a * 7 + b < 18446744073709551616) : HC (n + 2) Y 61 [u a, u 7, u b] h = some (u ((a * 7 + b) / 8), h) := (evP_step (by rfl) (by decide)).trans (st61_7 n Y h a b hs)

/-- a function whose call is made in a heap of its own -/
theorem own_of {n : Nat} {f : FuncId} (fn : AF) {args : List AV} {v : AV} {x : AX} {s1 : St} (Y : YH) (h : AH) (h0 : fsC f = true) (hf : f ≠ 12) (hp : pureL args = true) (hc : ctab.fget f = some fn) (hl : Nat.ble args.length fn.nt = true)
    (he : evCode (HC n) 1000000 false (fun _ => none) fn.body (argRegs args 0 .nil, { ownH with marks := [] }) = some (x, s1)) (hx : x = .normal ∨ x = .ret) (hm : s1.2.marks = []) (hv : (evRVs s1.1 s1.2 fn.results).map retV = some v) (hpv : v.pure = true) : HC (n + 1) Y f args h = some (v, h) :=
  evP_own h0 hf hp (fnOf fn hc hl he hx hm hv rfl) hpv

theorem own27 (n : Nat) (Y : YH) (h : AH) (a l m : Nat) : HC (n + 3) Y 27 [u a, u l, u m] h = some (clkN l m (min (max a l) m) 0 0 false, h) := by
  obtain ⟨s1, e1, e2, e3⟩ : ∃ s1, evCode (HC (n + 2)) 1000000 false (fun _ => none) c27.body (argRegs [u a, u l, u m] 0 .nil, { ownH with marks := [] }) = some (.ret, s1) ∧ s1.2.marks = [] ∧ (evRVs s1.1 s1.2 c27.results).map retV = some (clkN l m (min (max a l) m) 0 0 false) :=
    ⟨_, kSeq (by kernel_rfl) (kRun .normal (by kernel_rfl)) (kSeq (by kernel_rfl) (kOps (by kernel_rfl) (rSeg 4 (by kernel_rfl) (rCall (some 11) 59 [.r 9, .r 10] [clkN l m 0 0 0 false, u a] (by kernel_rfl) (by kernel_rfl) (own59N n _ _ l m 0 0 0 a false) (rEnd (by kernel_rfl)))))
      (kRun .ret (by kernel_rfl))), by kernel_rfl, by kernel_rfl⟩
  exact own_of c27 Y h (by rfl) (by decide) (by rfl) (by kernel_rfl) (by kernel_rfl) e1 (.inr rfl) e2 e3 (by rfl)
theorem own29 (n : Nat) (Y : YH) (h : AH) (l m w e o : Nat) (any : Bool) (hw : w + w < 18446744073709551616) : HC (n + 3) Y 29 [clkN l m w e o any] h = some (clkN l m (min (max (w + w) l) m) e o any, h) := by
  obtain ⟨s1, e1, e2, e3⟩ : ∃ s1, evCode (HC (n + 2)) 1000000 false (fun _ => none) c29.body (argRegs [clkN l m w e o any] 0 .nil, { ownH with marks := [] }) = some (.ret, s1) ∧ s1.2.marks = [] ∧ (evRVs s1.1 s1.2 c29.results).map retV = some (clkN l m (min (max (w + w) l) m) e o any) :=
    ⟨_, kSeq (by kernel_rfl) (kRun .normal (by kernel_rfl)) (kSeq (by kernel_rfl) (kOps (by kernel_rfl) (rSeg 5 (by kernel_rfl)
      (rOp (some 8) (.pcall 60 [.r 5, .r 7]) (by kernel_rfl) (pcall_of (vals := [u w, u w]) (by kernel_rfl) (by rfl) (h60 (n + 1) _ _ w w hw) (by rfl))
      (rCall (some 9) 59 [.r 3, .r 8] [clkN l m w e o any, u (w + w)] (by kernel_rfl) (by kernel_rfl) (own59N n _ _ l m w e o (w + w) any) (rEnd (by kernel_rfl))))))
      (kRun .ret (by kernel_rfl))), by kernel_rfl, by kernel_rfl⟩
  exact own_of c29 Y h (by rfl) (by decide) (by rfl) (by kernel_rfl) (by kernel_rfl) e1 (.inr rfl) e2 e3 (by rfl)

theorem maxN (a b : Nat) : max (Int.ofNat a) (Int.ofNat b) = Int.ofNat (max a b) := by
  show max (a : Int) (b : Int) = ((max a b : Nat) : Int)
  omega
theorem minN (a b : Nat) : min (Int.ofNat a) (Int.ofNat b) = Int.ofNat (min a b) := by
  show min (a : Int) (b : Int) = ((min a b : Nat) : Int)
  omega
theorem subN (a b : Nat) (h : b ≤ a) (ha : a < 18446744073709551616) : IntKind.u64.wrap (Int.ofNat a - Int.ofNat b) = Int.ofNat (a - b) := by
  have e : Int.ofNat a - Int.ofNat b = ((a - b : Nat) : Int) := by
    show (a : Int) - (b : Int) = _
    omega
  rw [e]
  exact u64_of (by omega) (by omega)
theorem shl2 (a : Nat) (h : a * 4 < 18446744073709551616) : IntKind.u64.wrap (Int.ofNat a * 2 ^ (min (Int.toNat 2) IntKind.u64.bits)) = Int.ofNat (a * 4) := by
  have e : Int.ofNat a * 2 ^ (min (Int.toNat 2) IntKind.u64.bits) = ((a * 4 : Nat) : Int) := by
    rw [show (min (Int.toNat 2) IntKind.u64.bits) = 2 from rfl, Int.natCast_mul]
    rfl
  rw [e]
  exact u64_of (by omega) (by omega)
theorem big_no (a : Nat) (h : a * 4 < 18446744073709551616) : decide (Int.ofNat a > 4611686018427387903) = false := by
  apply decide_eq_false
  show ¬ (a : Int) > _
  omega
theorem quo2 (x : Nat) (h : x < 18446744073709551616) : IntKind.u64.wrap ((Int.ofNat x).tdiv 2) = Int.ofNat (x / 2) := by
  show IntKind.u64.wrap (((x / 2 : Nat)) : Int) = ((x / 2 : Nat) : Int)
  exact u64_of (by omega) (by omega)

theorem own30t (n : Nat) (Y : YH) (h : AH) (l m w e o x : Nat) (he : e < 1099511627776) (ho : o < 1099511627776) (hx : x < 1099511627776) :
    HC (n + 3) Y 30 [clkN l m w e o true, u x] h = some (clkN l m (min (max (((e * 7 + x) / 8) + max 1 (((o * 3 + (max e x - min e x)) / 4) * 4)) l) m) ((e * 7 + x) / 8) ((o * 3 + (max e x - min e x)) / 4) true, h) := by
  have hmm : min e x ≤ max e x := by omega
  have hmx : max e x < 18446744073709551616 := by omega
  have h3 : o * 3 + (max e x - min e x) < 18446744073709551616 := by omega
  have h7 : e * 7 + x < 18446744073709551616 := by omega
  have ho4 : ((o * 3 + (max e x - min e x)) / 4) * 4 < 18446744073709551616 := by omega
  have hpl : ((e * 7 + x) / 8) + max 1 (((o * 3 + (max e x - min e x)) / 4) * 4) < 18446744073709551616 := by omega
  obtain ⟨s1, e1, e2, e3⟩ : ∃ s1, evCode (HC (n + 2)) 1000000 false (fun _ => none) c30.body (argRegs [clkN l m w e o true, u x] 0 .nil, { ownH with marks := [] }) = some (.ret, s1) ∧ s1.2.marks = [] ∧ (evRVs s1.1 s1.2 c30.results).map retV = some (clkN l m (min (max (((e * 7 + x) / 8) + max 1 (((o * 3 + (max e x - min e x)) / 4) * 4)) l) m) ((e * 7 + x) / 8) ((o * 3 + (max e x - min e x)) / 4) true) :=
    ⟨_, kSeq (by kernel_rfl) (kRun .normal (by kernel_rfl))
      (kSeq (by kernel_rfl) (kSeq (by kernel_rfl) (kRun .normal (by kernel_rfl)) (kCondT true (by kernel_rfl) (by kernel_rfl) rfl (kSeq (by kernel_rfl) (kOps (by kernel_rfl) (rSeg 5 (by kernel_rfl) (rOp (some 13) (.maxmin true (.r 11) [.r 12]) (by kernel_rfl) (max_of (k := .u64) (A := Int.ofNat e) (B := Int.ofNat x) (R := Int.ofNat (max e x)) (by kernel_rfl) (by kernel_rfl) (maxN e x))
        (rSeg 3 (by kernel_rfl) (rOp (some 17) (.maxmin false (.r 15) [.r 16]) (by kernel_rfl) (min_of (k := .u64) (A := Int.ofNat e) (B := Int.ofNat x) (R := Int.ofNat (min e x)) (by kernel_rfl) (by kernel_rfl) (minN e x))
        (rOp (some 18) (.bin .sub (.r 13) (.r 17)) (by kernel_rfl) (bin_sub (A := Int.ofNat (max e x)) (B := Int.ofNat (min e x)) (R := Int.ofNat (max e x - min e x)) (by kernel_rfl) (by kernel_rfl) (subN _ _ hmm hmx))
        (rCall (some 19) 61 [.r 9, .c (.int .u64 (.ofNat 3)), .r 18] [u o, u 3, u (max e x - min e x)] (by kernel_rfl) (by kernel_rfl) (h61_3 n _ _ o (max e x - min e x) h3) (rEnd (by kernel_rfl)))))))))
        (kOps (by kernel_rfl) (rSeg 3 (by kernel_rfl) (rCall (some 24) 61 [.r 22, .c (.int .u64 (.ofNat 7)), .r 23] [u e, u 7, u x] (by kernel_rfl) (by kernel_rfl) (h61_7 n _ _ e x h7) (rEnd (by kernel_rfl))))))))
      (kSeq (by kernel_rfl) (kOps (by kernel_rfl) (rSeg 2 (by kernel_rfl) (rOp (some 34) (.bin .shl (.r 33) (.c (.int .u64 (.ofNat 2)))) (by kernel_rfl) (bin_shl (k' := .u64) (A := Int.ofNat ((o * 3 + (max e x - min e x)) / 4)) (R := Int.ofNat ((o * 3 + (max e x - min e x)) / 4 * 4)) (by kernel_rfl) (by kernel_rfl) (by decide) (shl2 _ ho4)) (rEnd (by kernel_rfl)))))
      (kSeq (by kernel_rfl) (kSeq (by kernel_rfl) (kRun .normal (by kernel_rfl)) (kCondF (decide (Int.ofNat ((o * 3 + (max e x - min e x)) / 4) > 4611686018427387903)) (by kernel_rfl) (by kernel_rfl) (big_no _ ho4) (kRun .normal (by kernel_rfl))))
      (kSeq (by kernel_rfl) (kOps (by kernel_rfl) (rSeg 4 (by kernel_rfl) (rOp (some 42) (.maxmin true (.c (.int .u64 (.ofNat 1))) [.r 41]) (by kernel_rfl) (max_of (k := .u64) (A := 1) (B := Int.ofNat ((o * 3 + (max e x - min e x)) / 4 * 4)) (R := Int.ofNat (max 1 ((o * 3 + (max e x - min e x)) / 4 * 4))) (by kernel_rfl) (by kernel_rfl) (maxN 1 _))
        (rOp (some 43) (.pcall 60 [.r 40, .r 42]) (by kernel_rfl) (pcall_of (vals := [u ((e * 7 + x) / 8), u (max 1 ((o * 3 + (max e x - min e x)) / 4 * 4))]) (by kernel_rfl) (by rfl) (h60 (n + 1) _ _ ((e * 7 + x) / 8) (max 1 ((o * 3 + (max e x - min e x)) / 4 * 4)) hpl) (by rfl))
        (rCall (some 44) 59 [.r 38, .r 43] [clkN l m w ((e * 7 + x) / 8) ((o * 3 + (max e x - min e x)) / 4) true, u ((e * 7 + x) / 8 + max 1 ((o * 3 + (max e x - min e x)) / 4 * 4))] (by kernel_rfl) (by kernel_rfl) (own59N n _ _ l m w ((e * 7 + x) / 8) ((o * 3 + (max e x - min e x)) / 4) ((e * 7 + x) / 8 + max 1 ((o * 3 + (max e x - min e x)) / 4 * 4)) true) (rEnd (by kernel_rfl)))))))
      (kRun .ret (by kernel_rfl)))))), by kernel_rfl, by kernel_rfl⟩

  exact own_of c30 Y h (by rfl) (by decide) (by rfl) (by kernel_rfl) (by kernel_rfl) e1 (.inr rfl) e2 e3 (by rfl)

theorem own30f (n : Nat) (Y : YH) (h : AH) (l m w e o x : Nat) (hx : x < 1099511627776) :
    HC (n + 3) Y 30 [clkN l m w e o false, u x] h = some (clkN l m (min (max (x + max 1 (x / 2 * 4)) l) m) x (x / 2) true, h) := by
  have hx2 : x < 18446744073709551616 := by omega
  have ho4 : x / 2 * 4 < 18446744073709551616 := by omega
  have hpl : x + max 1 (x / 2 * 4) < 18446744073709551616 := by omega
  obtain ⟨s1, e1, e2, e3⟩ : ∃ s1, evCode (HC (n + 2)) 1000000 false (fun _ => none) c30.body (argRegs [clkN l m w e o false, u x] 0 .nil, { ownH with marks := [] }) = some (.ret, s1) ∧ s1.2.marks = [] ∧ (evRVs s1.1 s1.2 c30.results).map retV = some (clkN l m (min (max (x + max 1 (x / 2 * 4)) l) m) x (x / 2) true) :=
    ⟨_, kSeq (by kernel_rfl) (kRun .normal (by kernel_rfl))
      (kSeq (by kernel_rfl) (kSeq (by kernel_rfl) (kRun .normal (by kernel_rfl)) (kCondF false (by kernel_rfl) (by kernel_rfl) rfl (kOps (by kernel_rfl) (rSeg 2 (by kernel_rfl) (rOp (some 28) (.bin .quo (.r 27) (.c (.int .u64 (.ofNat 2)))) (by kernel_rfl) (bin_quo (A := Int.ofNat x) (B := 2) (R := Int.ofNat (x / 2)) (by kernel_rfl) (by kernel_rfl) (by decide) (quo2 x hx2)) (rEnd (by kernel_rfl)))))))
      (kSeq (by kernel_rfl) (kOps (by kernel_rfl) (rSeg 2 (by kernel_rfl) (rOp (some 34) (.bin .shl (.r 33) (.c (.int .u64 (.ofNat 2)))) (by kernel_rfl) (bin_shl (k' := .u64) (A := Int.ofNat (x / 2)) (R := Int.ofNat (x / 2 * 4)) (by kernel_rfl) (by kernel_rfl) (by decide) (shl2 _ ho4)) (rEnd (by kernel_rfl)))))
      (kSeq (by kernel_rfl) (kSeq (by kernel_rfl) (kRun .normal (by kernel_rfl)) (kCondF (decide (Int.ofNat (x / 2) > 4611686018427387903)) (by kernel_rfl) (by kernel_rfl) (big_no _ ho4) (kRun .normal (by kernel_rfl))))
      (kSeq (by kernel_rfl) (kOps (by kernel_rfl) (rSeg 4 (by kernel_rfl) (rOp (some 42) (.maxmin true (.c (.int .u64 (.ofNat 1))) [.r 41]) (by kernel_rfl) (max_of (k := .u64) (A := 1) (B := Int.ofNat (x / 2 * 4)) (R := Int.ofNat (max 1 (x / 2 * 4))) (by kernel_rfl) (by kernel_rfl) (maxN 1 _))
        (rOp (some 43) (.pcall 60 [.r 40, .r 42]) (by kernel_rfl) (pcall_of (vals := [u (x), u (max 1 (x / 2 * 4))]) (by kernel_rfl) (by rfl) (h60 (n + 1) _ _ (x) (max 1 (x / 2 * 4)) hpl) (by rfl))
        (rCall (some 44) 59 [.r 38, .r 43] [clkN l m w (x) (x / 2) true, u (x + max 1 (x / 2 * 4))] (by kernel_rfl) (by kernel_rfl) (own59N n _ _ l m w (x) (x / 2) (x + max 1 (x / 2 * 4)) true) (rEnd (by kernel_rfl)))))))
      (kRun .ret (by kernel_rfl)))))), by kernel_rfl, by kernel_rfl⟩

  exact own_of c30 Y h (by rfl) (by decide) (by rfl) (by kernel_rfl) (by kernel_rfl) e1 (.inr rfl) e2 e3 (by rfl)
end Go.Am
