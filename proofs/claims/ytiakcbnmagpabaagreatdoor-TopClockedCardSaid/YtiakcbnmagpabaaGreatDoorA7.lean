/- The evaluator for the kernel is the abstract machine: operations. -/
import Derived.Test.YtiakcbnmagpabaaGreatDoorA6
import Derived.Test.YtiakcbnmagpabaaGreatDoorA4
namespace Go.Am

theorem toNat_ofInt' (k : IntKind) (x : Int) : (BitVec.ofInt k.bits x).toNat = bitsOf k x := by rw [BitVec.toNat_ofInt]; rfl

theorem fBit_ok {f : Nat → Nat → Nat} {g : BitVec 0 → BitVec 0 → BitVec 0} {k : IntKind} {x y : Int} {c : K1} (r : BitVec k.bits) (hr : r.toNat = f (bitsOf k x) (bitsOf k y)) (q : fBit f k x y c = true) :
    c (.int k (k.wrap (r.toNat : Nat))) = true := by
  unfold fBit at q
  rw [fBits_eq, fBits_eq, fNat_eq, ← hr, fOf_eq _ _ _ (by rw [pow2_eq]; exact r.isLt)] at q
  exact q

theorem fIntBin_ok {op : BinOp} {k : IntKind} {x y : Int} {c : K1} (q : fIntBin op k x y c = true) : ∃ v, intBin op k x y = some v ∧ c v = true := by
  cases op with
  | add => exact ⟨_, rfl, by have q : fWrap k (x + y) (fun n => c (.int k n)) = true := q; rw [fWrap_eq] at q; exact q⟩
  | sub => exact ⟨_, rfl, by have q : fWrap k (x - y) (fun n => c (.int k n)) = true := q; rw [fWrap_eq] at q; exact q⟩
  | mul => exact ⟨_, rfl, by have q : fWrap k (x * y) (fun n => c (.int k n)) = true := q; rw [fWrap_eq] at q; exact q⟩
  | quo =>
    obtain ⟨h1, q⟩ := fIf_not (b := fEq y 0) q
    rw [fEq_eq] at h1
    rw [fWrap_eq] at q
    exact ⟨_, by simp only [intBin]; rw [if_neg (by simpa using h1)], q⟩
  | rem =>
    obtain ⟨h1, q⟩ := fIf_not (b := fEq y 0) q
    rw [fEq_eq] at h1
    rw [fInt_eq] at q
    exact ⟨_, by simp only [intBin]; rw [if_neg (by simpa using h1)], q⟩
  | and => exact ⟨_, rfl, fBit_ok (g := fun a _ => a) (BitVec.ofInt k.bits x &&& BitVec.ofInt k.bits y) (by rw [BitVec.toNat_and, toNat_ofInt', toNat_ofInt']; rfl) q⟩
  | or => exact ⟨_, rfl, fBit_ok (g := fun a _ => a) (BitVec.ofInt k.bits x ||| BitVec.ofInt k.bits y) (by rw [BitVec.toNat_or, toNat_ofInt', toNat_ofInt']; rfl) q⟩
  | xor => exact ⟨_, rfl, fBit_ok (g := fun a _ => a) (BitVec.ofInt k.bits x ^^^ BitVec.ofInt k.bits y) (by rw [BitVec.toNat_xor, toNat_ofInt', toNat_ofInt']; rfl) q⟩
  | shl => exact absurd q Bool.false_ne_true
  | shr => exact absurd q Bool.false_ne_true
  | andNot =>
    refine ⟨_, rfl, ?_⟩
    have q : fBits k x (fun a => fBits k y fun b => fNat (Nat.land a (Nat.sub (Nat.sub (pow2 k) 1) b)) fun m => fOf k m fun n => c (.int k n)) = true := q
    have hr : (BitVec.ofInt k.bits x &&& ~~~BitVec.ofInt k.bits y).toNat = Nat.land (bitsOf k x) (Nat.sub (Nat.sub (pow2 k) 1) (bitsOf k y)) := by
      rw [BitVec.toNat_and, BitVec.toNat_not, toNat_ofInt', toNat_ofInt', pow2_eq]
      rfl
    rw [fBits_eq, fBits_eq, fNat_eq, ← hr, fOf_eq _ _ _ (by rw [pow2_eq]; exact (BitVec.ofInt k.bits x &&& ~~~BitVec.ofInt k.bits y).isLt)] at q
    exact q
  | eql => exact ⟨_, rfl, by have q : fBool (fEq x y) (fun b => c (.bool b)) = true := q; rw [fBool_eq, fEq_eq] at q; exact q⟩
  | neq => exact ⟨_, rfl, by have q : fBool (fNot (fEq x y)) (fun b => c (.bool b)) = true := q; rw [fBool_eq, fNot_eq, fEq_eq] at q; exact q⟩
  | lss => exact ⟨_, rfl, by have q : fBool (fLt x y) (fun b => c (.bool b)) = true := q; rw [fBool_eq, fLt_eq] at q; exact q⟩
  | leq =>
    refine ⟨_, rfl, ?_⟩
    have q : fBool (fNot (fLt y x)) (fun b => c (.bool b)) = true := q
    rw [fBool_eq, fNot_eq, fLt_eq] at q
    have e : (!decide (y < x)) = decide (x ≤ y) := by rw [← decide_not]; congr 1; exact propext ⟨fun h => by omega, fun h => by omega⟩
    rw [e] at q
    exact q
  | gtr => exact ⟨_, rfl, by have q : fBool (fLt y x) (fun b => c (.bool b)) = true := q; rw [fBool_eq, fLt_eq] at q; exact q⟩
  | geq =>
    refine ⟨_, rfl, ?_⟩
    have q : fBool (fNot (fLt x y)) (fun b => c (.bool b)) = true := q
    rw [fBool_eq, fNot_eq, fLt_eq] at q
    have e : (!decide (x < y)) = decide (x ≥ y) := by rw [← decide_not]; congr 1; exact propext ⟨fun h => by omega, fun h => by omega⟩
    rw [e] at q
    exact q

theorem bitsN_eq (k : IntKind) : bitsN k = k.bits := by cases k <;> rfl
theorem min_rec (b m : Nat) : (@Bool.rec (fun _ => Nat → Nat → Nat) (fun a _ => a) (fun _ b => b) (Nat.ble b m)) m b = min b m := by
  cases h : Nat.ble b m with
  | true => exact (Nat.min_eq_left (Nat.le_of_ble_eq_true h)).symm
  | false =>
    have : ¬ b ≤ m := fun e => by rw [Nat.ble_eq_true_of_le e] at h; cases h
    show m = min b m
    exact (Nat.min_eq_right (by omega)).symm
theorem fShl_ok {k : IntKind} {x y : Int} {c : K1} (q : fShl k x y c = true) : ∃ v, intShift true k x y = some v ∧ c v = true := by
  cases y with
  | negSucc a => exact absurd q Bool.false_ne_true
  | ofNat b =>
    have q : fNat ((@Bool.rec (fun _ => Nat → Nat → Nat) (fun a _ => a) (fun _ b => b) (Nat.ble b (bitsN k))) (bitsN k) b) (fun b => fWrap k (Int.mul x (.ofNat (Nat.pow 2 b))) fun n => c (.int k n)) = true := q
    rw [fNat_eq, fWrap_eq, min_rec, bitsN_eq] at q
    refine ⟨_, ?_, q⟩
    unfold intShift
    rw [if_neg (by simp)]
    simp only [if_true]
    congr 3
theorem fShr_ok {k : IntKind} {x y : Int} {c : K1} (q : fShr k x y c = true) : ∃ v, intShift false k x y = some v ∧ c v = true := by
  cases y with
  | negSucc a => exact absurd q Bool.false_ne_true
  | ofNat b =>
    have q : fNat ((@Bool.rec (fun _ => Nat → Nat → Nat) (fun a _ => a) (fun _ b => b) (Nat.ble b (bitsN k))) (bitsN k) b) (fun b =>
      @Int.rec (fun _ => Nat → IntKind → K1 → Bool) (fun a b k c => fOfNat (Nat.div a (Nat.pow 2 b)) fun n => c (.int k n)) (fun a b k c => fNegSucc (Nat.div a (Nat.pow 2 b)) fun n => c (.int k n)) x b k c) = true := q
    rw [fNat_eq, min_rec, bitsN_eq] at q
    have hb : (Int.ofNat b).toNat = b := rfl
    have hp : ∀ m : Nat, (2 : Int) ^ m = ((2 ^ m : Nat) : Int) := fun m => by rw [Int.natCast_pow]; rfl
    have hm : ∀ m, 0 < 2 ^ m := fun m => Nat.two_pow_pos m
    cases x with
    | ofNat a =>
      have q : fOfNat (Nat.div a (Nat.pow 2 (min b k.bits))) (fun n => c (.int k n)) = true := q
      rw [fOfNat_eq] at q
      refine ⟨_, ?_, q⟩
      unfold intShift
      rw [if_neg (by simp)]
      simp only [Bool.false_eq_true, if_false, hb, hp]
      congr 2
      exact (Int.ofNat_fdiv _ _).symm
    | negSucc a =>
      have q : fNegSucc (Nat.div a (Nat.pow 2 (min b k.bits))) (fun n => c (.int k n)) = true := q
      rw [fNegSucc_eq] at q
      refine ⟨_, ?_, q⟩
      unfold intShift
      rw [if_neg (by simp)]
      simp only [Bool.false_eq_true, if_false, hb, hp]
      congr 2
      have := hm (min b k.bits)
      obtain ⟨p, hp⟩ : ∃ p, 2 ^ min b k.bits = p + 1 := ⟨2 ^ min b k.bits - 1, by omega⟩
      show Int.fdiv (Int.negSucc a) (Int.ofNat (2 ^ min b k.bits)) = Int.negSucc (a / 2 ^ min b k.bits)
      rw [hp]
      rfl
theorem fKind_ok {a b : IntKind} (q : fKind a b = true) : a = b := by cases a <;> cases b <;> first | rfl | exact absurd q Bool.false_ne_true
theorem fO_ok {o : Option AV} {c : K1} (q : fO o c = true) : ∃ v, o = some v ∧ c v = true := by
  cases o with
  | none => exact absurd q Bool.false_ne_true
  | some v => exact ⟨v, rfl, by have q : fAV v c = true := q; rw [fAV_eq] at q; exact q⟩
theorem fInts_ok {op : BinOp} {k k' : IntKind} {x y : Int} {c : K1} (q : fInts op k k' x y c = true) : ∃ v, binV op (.int k x) (.int k' y) = some v ∧ c v = true := by
  have h : ∀ op', op' ≠ .shl → op' ≠ .shr → fIf (fKind k k') (fIntBin op' k x y c) false = true → ∃ v, binV op' (.int k x) (.int k' y) = some v ∧ c v = true := by
    intro op' h1 h2 q
    obtain ⟨q1, q2⟩ := fIf_and q
    obtain ⟨v, e1, e2⟩ := fIntBin_ok q2
    have := fKind_ok q1
    subst this
    refine ⟨v, ?_, e2⟩
    cases op' <;> first
      | exact absurd rfl h1
      | exact absurd rfl h2
      | (simp only [binV, if_true]; exact e1)
  cases op <;> first
    | exact fShl_ok q
    | exact fShr_ok q
    | exact h _ (by simp) (by simp) q
theorem fBinV_ok {op : BinOp} {x y : AV} {c : K1} (q : fBinV op x y c = true) : ∃ v, binV op x y = some v ∧ c v = true := by
  cases x <;> first
    | exact fO_ok q
    | (cases y <;> first
        | exact fO_ok q
        | exact fInts_ok q)
theorem fIdx_ok {i : AV} {len : Nat} {k : KN} (q : fIdx i len k = true) : ∃ n, idxV i len = some n ∧ k n = true := by
  cases i <;> try exact absurd q Bool.false_ne_true
  rename_i kd n
  cases n with
  | negSucc a => exact absurd q Bool.false_ne_true
  | ofNat a =>
    obtain ⟨h1, h2⟩ := fIf_and (b := Nat.blt a len) q
    refine ⟨a, ?_, h2⟩
    unfold idxV
    have : a < len := by simpa [Nat.blt_eq] using h1
    simp only
    rw [if_pos ⟨by simp, by simpa using this⟩]
    rfl
theorem fTwo_ok {m : Bool} {a b : AV} {c : K1} (q : fTwo m a b c = true) : ∃ v, two m a b = some v ∧ c v = true := by
  cases a <;> try exact absurd q Bool.false_ne_true
  rename_i k x
  cases b <;> try exact absurd q Bool.false_ne_true
  rename_i k' y
  have q : fIf (fIf m (fLt x y) (fLt y x)) (c (.int k y)) (c (.int k x)) = true := q
  refine ⟨_, rfl, ?_⟩
  cases m with
  | true =>
    have q : fIf (fLt x y) (c (.int k y)) (c (.int k x)) = true := q
    rw [fLt_eq] at q
    simp only [if_true]
    rcases fIf_cases q with ⟨h1, h2⟩ | ⟨h1, h2⟩
    · rw [if_pos (by simpa using h1)]; exact h2
    · rw [if_neg (by simpa using h1)]; exact h2
  | false =>
    have q : fIf (fLt y x) (c (.int k y)) (c (.int k x)) = true := q
    rw [fLt_eq] at q
    simp only [Bool.false_eq_true, if_false]
    rcases fIf_cases q with ⟨h1, h2⟩ | ⟨h1, h2⟩
    · rw [if_pos (by simpa using h1)]; exact h2
    · rw [if_neg (by simpa using h1)]; exact h2

/-! ### operations -/
def OpOk (f : FO) (o : AOp) : Prop := ∀ (g : RT) (h : AH) (k : K2), f g h k = true → ∃ v h', evOp o g h = some (v, h') ∧ k v h' = true

theorem fPure_ok {o : AOp} (hu : heapUse o ≤ 1) : OpOk (fPure o) o := fun g h k q => by
  unfold fPure at q
  cases he : evOp o g h with
  | none => rw [he] at q; exact absurd q Bool.false_ne_true
  | some r =>
    obtain ⟨v, h'⟩ := r
    rw [he] at q
    have q : fAV v (fun v => k v h) = true := q
    rw [fAV_eq] at q
    have := evOp_reads hu he
    subst this
    exact ⟨v, h', rfl, q⟩
theorem fHeavy_ok (o : AOp) : OpOk (fHeavy o) o := fun g h k q => by
  unfold fHeavy at q
  cases he : evOp o g h with
  | none => rw [he] at q; exact absurd q Bool.false_ne_true
  | some r =>
    obtain ⟨v, h'⟩ := r
    rw [he] at q
    have q : fAV v (fun v => fNat h'.next fun nx => fHT h'.tr fun t => k v ⟨nx, h'.floor, h'.marks, t⟩) = true := q
    rw [fAV_eq, fNat_eq, fHT_eq] at q
    exact ⟨v, h', rfl, q⟩
theorem sliceSlV_tr {e : Nat} {ph : Bool} {x : AV} {lo hi mx : Option AV} {h h' : AH} {v : AV} (he : sliceSlV e ph x lo hi mx h = some (v, h')) : h' = ⟨h'.next, h.floor, h.marks, h.tr⟩ := by
  unfold sliceSlV at he
  split at he
  · obtain ⟨_, _, he⟩ := opt_some.1 he
    obtain ⟨_, _, he⟩ := opt_some.1 he
    obtain ⟨_, _, he⟩ := opt_some.1 he
    injection he with he; injection he with _ he; subst he
    rfl
  · obtain ⟨_, _, he⟩ := opt_some.1 he
    obtain ⟨_, _, he⟩ := opt_some.1 he
    obtain ⟨_, _, he⟩ := opt_some.1 he
    injection he with he; injection he with _ he; subst he
    rfl
  · split at he
    · obtain ⟨_, _, he⟩ := opt_some.1 he
      obtain ⟨_, _, he⟩ := opt_some.1 he
      obtain ⟨_, _, he⟩ := opt_some.1 he
      injection he with he; injection he with _ he; subst he
      rfl
    · obtain ⟨_, _, he⟩ := opt_some.1 he
      obtain ⟨_, _, he⟩ := opt_some.1 he
      split at he
      · injection he with he; injection he with _ he; subst he
        rfl
      · split at he
        · injection he with he; injection he with _ he; subst he
          rfl
        · split at he
          · injection he with he; injection he with _ he; subst he
            rfl
          · cases he
  · cases he
theorem fSliceSl_ok {e : Nat} {ph : Bool} {x : Opd} {lo hi mx : Option Opd} : OpOk (fPure' (.sliceSl e ph x lo hi mx)) (.sliceSl e ph x lo hi mx) := fun g h k q => by
  unfold fPure' at q
  cases he : evOp (.sliceSl e ph x lo hi mx) g h with
  | none => rw [he] at q; exact absurd q Bool.false_ne_true
  | some r =>
    obtain ⟨v, h'⟩ := r
    rw [he] at q
    have q : fAV v (fun v => fNat h'.next fun n => k v ⟨n, h.floor, h.marks, h.tr⟩) = true := q
    rw [fAV_eq, fNat_eq, ← sliceSlV_tr he] at q
    exact ⟨v, h', rfl, q⟩

theorem fMv_ok (x : Opd) : OpOk (fMv x) (.mv x) := fun g h k q => by
  unfold fMv at q
  rw [fOpd_eq] at q
  exact ⟨_, _, rfl, q⟩
theorem fPick_ok (c a b : Opd) : OpOk (fPick c a b) (.pick c a b) := fun g h k q => by
  unfold fPick at q
  rw [fOpd_eq] at q
  simp only [evOp]
  generalize c.ev g = cv at q ⊢
  cases cv <;> try exact absurd q Bool.false_ne_true
  rename_i c
  cases c with
  | true =>
    have q : fOpd a g (fun v => k v h) = true := q
    rw [fOpd_eq] at q
    exact ⟨_, _, rfl, q⟩
  | false =>
    have q : fOpd b g (fun v => k v h) = true := q
    rw [fOpd_eq] at q
    exact ⟨_, _, rfl, q⟩
theorem fBin_ok (op : BinOp) (x y : Opd) : OpOk (fBin op x y) (.bin op x y) := fun g h k q => by
  unfold fBin at q
  rw [fOpd_eq, fOpd_eq] at q
  obtain ⟨v, h1, h2⟩ := fBinV_ok q
  exact ⟨v, h, by simp only [evOp, h1]; rfl, h2⟩
theorem fUn_ok (op : UnOp) (x : Opd) : OpOk (fUn op x) (.un op x) := fun g h k q => by
  unfold fUn at q
  rw [fOpd_eq] at q
  obtain ⟨v, h1, h2⟩ := fO_ok q
  exact ⟨v, h, by simp only [evOp, h1]; rfl, h2⟩
theorem fToInt_ok (kd : IntKind) (x : Opd) : OpOk (fToInt kd x) (.toInt kd x) := fun g h k q => by
  unfold fToInt at q
  rw [fOpd_eq] at q
  simp only [evOp]
  generalize x.ev g = cv at q ⊢
  cases cv <;> try exact absurd q Bool.false_ne_true
  rename_i k0 n
  have q : fWrap kd n (fun n => k (.int kd n) h) = true := q
  rw [fWrap_eq] at q
  exact ⟨_, _, rfl, q⟩
theorem fLoad1_ok (x : Opd) : OpOk (fLoad1 x) (.load1 x) := fun g h k q => by
  unfold fLoad1 at q
  rw [fOpd_eq] at q
  simp only [evOp]
  generalize x.ev g = cv at q ⊢
  cases cv <;> try exact absurd q Bool.false_ne_true
  rename_i id off
  obtain ⟨e, cs, kd, h1, h2⟩ := fRow_ok (h := h) (id := id) q
  obtain ⟨v, h3, h4⟩ := fNth_ok h2
  exact ⟨v, h, by simp only [AH.cell, h1, h3]; rfl, h4⟩
theorem fLoadN_ok (n : Nat) (x : Opd) : OpOk (fLoadN n x) (.loadN n x) := fun g h k q => by
  unfold fLoadN at q
  rw [fOpd_eq] at q
  simp only [evOp]
  generalize x.ev g = cv at q ⊢
  cases cv <;> try exact absurd q Bool.false_ne_true
  rename_i id off
  obtain ⟨cs, h1, h2⟩ := fCells_ok (h := h) (id := id) (off := off) (n := n) q
  exact ⟨.agg cs, h, by simp only [h1]; rfl, h2⟩
theorem fLn_ok : ∀ {l : List AV} {n : Nat}, fLn l n = true → l.length = n
  | [], n, q => by
    have q : Nat.beq n 0 = true := q
    rw [Nat.beq_eq] at q
    exact q.symm
  | x :: l, 0, q => absurd q Bool.false_ne_true
  | x :: l, n + 1, q => by
    have := fLn_ok (l := l) (n := n) q
    simp [this]
theorem fCellsOf_eq (v : AV) (k : KL) : fCellsOf v k = k v.cells := by cases v <;> rfl
theorem fStore_ok (n : Nat) (x v : Opd) : OpOk (fStore n x v) (.store n x v) := fun g h k q => by
  unfold fStore at q
  rw [fOpd_eq, fOpd_eq] at q
  simp only [evOp]
  generalize x.ev g = cv at q ⊢
  cases cv <;> try exact absurd q Bool.false_ne_true
  rename_i id off
  have q : fCellsOf (v.ev g) (fun vs => fIf (fLn vs n) (fWrite h id off vs fun h => k undef h) false) = true := q
  rw [fCellsOf_eq] at q
  obtain ⟨h1, q⟩ := fIf_and q
  obtain ⟨h', h2, h3⟩ := fWrite_ok q
  simp only [if_pos (fLn_ok h1), h2, opt]
  exact ⟨_, _, rfl, h3⟩
theorem fField_ok (off : Nat) (x : Opd) : OpOk (fField off x) (.fieldAt off x) := fun g h k q => by
  unfold fField at q
  rw [fOpd_eq] at q
  simp only [evOp]
  generalize x.ev g = cv at q ⊢
  cases cv <;> try exact absurd q Bool.false_ne_true
  rename_i id o
  have q : fNat (Nat.add o off) (fun o => k (.ptr id o) h) = true := q
  rw [fNat_eq] at q
  exact ⟨_, _, rfl, q⟩
theorem fIndexArr_ok (len e : Nat) (x i : Opd) : OpOk (fIndexArr len e x i) (.indexArr len e x i) := fun g h k q => by
  unfold fIndexArr at q
  rw [fOpd_eq, fOpd_eq] at q
  simp only [evOp]
  generalize x.ev g = cv at q ⊢
  cases cv <;> try exact absurd q Bool.false_ne_true
  rename_i id off
  obtain ⟨j, h1, q⟩ := fIdx_ok (i := i.ev g) (len := len) (k := fun j => fNat (Nat.add off (Nat.mul j e)) fun o => k (.ptr id o) h) q
  rw [fNat_eq] at q
  exact ⟨_, _, by simp only [h1]; rfl, q⟩
theorem fIndexSl_ok (e : Nat) (x i : Opd) : OpOk (fIndexSl e x i) (.indexSl e x i) := fun g h k q => by
  unfold fIndexSl at q
  rw [fOpd_eq, fOpd_eq] at q
  simp only [evOp]
  generalize x.ev g = cv at q ⊢
  cases cv <;> try exact absurd q Bool.false_ne_true
  rename_i id off len c
  obtain ⟨j, h1, q⟩ := fIdx_ok (i := i.ev g) (len := len) (k := fun j => fNat (Nat.add off (Nat.mul j e)) fun o => k (.ptr id o) h) q
  rw [fNat_eq] at q
  exact ⟨_, _, by simp only [h1]; rfl, q⟩
theorem fExtract_ok (i : Nat) (x : Opd) : OpOk (fExtract i x) (.extract i x) := fun g h k q => by
  unfold fExtract at q
  rw [fOpd_eq] at q
  simp only [evOp]
  generalize x.ev g = cv at q ⊢
  cases cv <;> try exact absurd q Bool.false_ne_true
  rename_i vs
  obtain ⟨v, h1, h2⟩ := fNth_ok (l := vs) (i := i) (k := fun v => k v h) q
  exact ⟨v, h, by simp only [h1]; rfl, h2⟩
theorem fNilCheck_ok (x : Opd) : OpOk (fNilCheck x) (.nilCheck x) := fun g h k q => by
  unfold fNilCheck at q
  rw [fOpd_eq] at q
  simp only [evOp]
  generalize x.ev g = cv at q ⊢
  cases cv <;> try exact absurd q Bool.false_ne_true
  · exact ⟨_, _, rfl, q⟩
  · rename_i f a b
    obtain ⟨v, h', h1, h2⟩ := fPure_ok (o := .nilCheck (.c (.func f a b))) (by simp [heapUse]) .nil h k q
    exact ⟨v, h', h1, h2⟩
theorem fAllOne_ok : ∀ {l : List AV}, fAllOne l = true → l.all AV.one = true
  | [], _ => rfl
  | v :: l, q => by
    obtain ⟨h1, h2⟩ := fIf_and (b := fOne v) (x := fAllOne l) q
    rw [fOne_eq] at h1
    simp [h1]
    simpa using fAllOne_ok h2
theorem fParts_eq : ∀ (ps : List (Nat × Nat × Opd)) (g : RT) (k : List (Nat × Nat × AV) → Bool), fParts ps g k = k (ps.map fun (a, b, x) => (a, b, x.ev g))
  | [], _, _ => rfl
  | p :: ps, g, k => by
    show fOpd p.2.2 g (fun v => fParts ps g fun l => k ((p.1, p.2.1, v) :: l)) = _
    rw [fOpd_eq, fParts_eq ps]
    rfl
theorem fBuildSlice_ok (e len : Nat) (zero : List AV) (ps : List (Nat × Nat × Opd)) : OpOk (fBuildSlice e len zero ps) (.buildSlice e len zero ps) := fun g h k q => by
  unfold fBuildSlice at q
  rw [fParts_eq] at q
  simp only [evOp]
  cases hf : fillParts (rep len zero) (ps.map fun (a, b, x) => (a, b, x.ev g)) with
  | none => rw [hf] at q; exact absurd q Bool.false_ne_true
  | some cs =>
    rw [hf] at q
    have q : fList cs (fun cs => fIf (fAllOne cs) (fNew h (.row e cs .closed) fun id h => k (.slice id 0 len (.fixed len)) h) false) = true := q
    rw [fList_eq] at q
    obtain ⟨h1, q⟩ := fIf_and q
    rw [fNew_eq] at q
    simp only [opt, if_pos (fAllOne_ok h1)]
    exact ⟨_, _, rfl, q⟩
theorem fBuild_ok (zero : List AV) (ps : List (Nat × Nat × Opd)) : OpOk (fBuild zero ps) (.build zero ps) := fun g h k q => by
  unfold fBuild at q
  rw [fParts_eq] at q
  simp only [evOp]
  cases hf : fillParts zero (ps.map fun (a, b, x) => (a, b, x.ev g)) with
  | none => rw [hf] at q; exact absurd q Bool.false_ne_true
  | some cs =>
    rw [hf] at q
    have q : fList cs (fun cs => k (.agg cs) h) = true := q
    rw [fList_eq] at q
    exact ⟨_, _, rfl, q⟩
theorem fBox_ok (n : Nat) (x : Opd) : OpOk (fBox n x) (.box n x) := fun g h k q => by
  unfold fBox at q
  rw [fOpd_eq, fCellsOf_eq] at q
  obtain ⟨h1, q⟩ := fIf_and q
  obtain ⟨h2, q⟩ := fIf_and q
  rw [fNew_eq] at q
  simp only [evOp]
  rw [if_pos ⟨fLn_ok h1, fAllOne_ok h2⟩]
  exact ⟨_, _, rfl, q⟩
theorem fAlloc_ok (zero : List AV) : OpOk (fAlloc zero) (.alloc zero) := fun g h k q => by
  unfold fAlloc at q
  rw [fNew_eq] at q
  exact ⟨_, _, rfl, q⟩
theorem fFirst_ok {v : AV} {h : AH} {e n : Nat} {c : KL} (q : fFirst v h e n c = true) : ∃ cs, firstCells e n h v = some cs ∧ c cs = true := by
  cases v <;> try exact absurd q Bool.false_ne_true
  · rename_i s
    obtain ⟨h1, q⟩ := fIf_and (b := Nat.beq e 1) q
    rw [fList_eq] at q
    have h1 : e = 1 := by simpa [Nat.beq_eq] using h1
    exact ⟨_, by simp only [firstCells, if_pos h1], q⟩
  · rename_i id off len cp
    have q : fNat (Nat.mul n e) (fun m => fCells h id off m c) = true := q
    rw [fNat_eq] at q
    exact fCells_ok q
  · exact ⟨[], rfl, q⟩
theorem fLenV_ok {v : AV} {c : KN} (q : fLenV v c = true) : ∃ n, lenV v = some n ∧ c n = true := by
  cases v <;> try exact absurd q Bool.false_ne_true
  · rename_i s
    have q : fNat s.length c = true := q
    rw [fNat_eq] at q
    exact ⟨_, rfl, q⟩
  · exact ⟨_, rfl, q⟩
  · exact ⟨_, rfl, q⟩
theorem fApp_eq : ∀ (a b : List AV) (c : KL), fApp a b c = c (a ++ b)
  | [], _, _ => rfl
  | x :: a, b, c => fApp_eq a b fun r => c (x :: r)
theorem fGrow_ok {e bytes need : Nat} {old new : List AV} {h : AH} {k : K2} (q : fGrow e bytes need old new h k = true) :
    capBound need bytes = true ∧ new.all AV.one = true ∧ k (.slice h.next 0 need (.upto 0)) (h.new (.row e (old ++ new) .open_)).2 = true := by
  unfold fGrow at q
  obtain ⟨h1, q⟩ := fIf_and q
  obtain ⟨h2, q⟩ := fIf_and q
  rw [fApp_eq, fNew_eq] at q
  exact ⟨h1, fAllOne_ok h2, q⟩
theorem fAppend1_ok {s : AV} {e bytes n : Nat} {new : List AV} {h : AH} {k : K2} (q : fAppend1 s e bytes n new h k = true) : ∃ v h', appendV e bytes s n new h = some (v, h') ∧ k v h' = true := by
  cases s <;> try exact absurd q Bool.false_ne_true
  · rename_i id off len cp
    cases cp with
    | fixed c =>
      have q : fAppFix id off len c e bytes n new h k = true := q
      unfold fAppFix at q
      rw [fNat_eq] at q
      simp only [appendV]
      rcases fIf_cases q with ⟨h1, q⟩ | ⟨h1, q⟩
      · rw [fNat_eq] at q
        obtain ⟨h', h2, h3⟩ := fWrite_ok q
        have h2 : h.write id (off + len * e) new = some h' := h2
        rw [if_pos (show len + n ≤ c from Nat.le_of_ble_eq_true h1), h2]
        exact ⟨_, _, rfl, h3⟩
      · have h1' : ¬ len + n ≤ c := fun e => by
          have h1 : Nat.ble (len + n) c = false := h1
          rw [Nat.ble_eq_true_of_le e] at h1; cases h1
        rw [fNat_eq] at q
        obtain ⟨old, h2, q⟩ := fCells_ok q
        obtain ⟨h3, h4, q⟩ := fGrow_ok q
        have h2 : h.cellsAt id off (len * e) = some old := h2
        have h3 : capBound (len + n) bytes = true := h3
        rw [if_neg h1', h2]
        simp only [h3, h4, Bool.not_true, Bool.or_self, Bool.false_eq_true, if_false, opt]
        exact ⟨_, _, rfl, q⟩
    | upto lo =>
      have q : fAppUp id off len lo e bytes n new h k = true := q
      unfold fAppUp at q
      simp only [appendV]
      cases n with
      | zero =>
        obtain ⟨h1, q⟩ := fIf_and (b := Nat.ble len (capOf h id lo e)) (x := k (.slice id off len (.upto lo)) h) q
        rw [if_pos rfl, if_pos (Nat.le_of_ble_eq_true h1)]
        exact ⟨_, _, rfl, q⟩
      | succ n =>
        obtain ⟨e', cs, kd, h0, q⟩ := fRow_ok (h := h) (id := id) q
        obtain ⟨hk, q⟩ := fIf_and q
        have hk : kd = .open_ := by cases kd <;> first | rfl | exact absurd hk Bool.false_ne_true
        obtain ⟨he, q⟩ := fIf_and q
        have he : e' = e := by simpa [Nat.beq_eq] using he
        obtain ⟨ho, q⟩ := fIf_and q
        have ho : off = lo * e := by simpa [Nat.beq_eq] using ho
        rw [fNat_eq] at q
        obtain ⟨hc, q⟩ := fIf_and q
        have hc : capBound (len + (n + 1)) bytes = true := hc
        obtain ⟨ha, q⟩ := fIf_and q
        have ha := fAllOne_ok ha
        rw [if_neg (Nat.succ_ne_zero n), h0]
        simp only
        rw [if_neg (by simp [hk, he, ho, hc]; simpa using ha)]
        rcases fIf_cases q with ⟨h1, q⟩ | ⟨h1, q⟩
        · rw [fNat_eq] at q
          obtain ⟨h', h2, h3⟩ := fWrite_ok q
          have h2 : h.write id (off + len * e) new = some h' := h2
          have h1 : (lo + (len + (n + 1))) * e ≤ cs.length := Nat.le_of_ble_eq_true h1
          rw [if_pos (by rw [show lo + len + (n + 1) = lo + (len + (n + 1)) by omega]; exact h1), h2]
          exact ⟨_, _, rfl, h3⟩
        · have h1' : ¬ (lo + len + (n + 1)) * e ≤ cs.length := fun e => by
            have h1 : Nat.ble ((lo + (len + (n + 1))) * _) cs.length = false := h1
            rw [show lo + len + (n + 1) = lo + (len + (n + 1)) by omega] at e
            rw [Nat.ble_eq_true_of_le e] at h1; cases h1
          rw [fNat_eq] at q
          obtain ⟨old, h2, q⟩ := fCells_ok q
          obtain ⟨h', h3, q⟩ := fPut_ok q
          obtain ⟨_, _, q⟩ := fGrow_ok q
          have h2 : h.cellsAt id off (len * e) = some old := h2
          rw [if_neg h1', h2]
          simp only [opt, h3]
          exact ⟨_, _, rfl, q⟩
  · cases n with
    | zero => exact ⟨_, _, rfl, q⟩
    | succ n =>
      have q : fGrow e bytes (Nat.succ n) [] new h k = true := q
      obtain ⟨h1, h2, q⟩ := fGrow_ok q
      simp only [appendV]
      rw [if_neg (Nat.succ_ne_zero n)]
      simp only [show capBound (n + 1) bytes = true from h1, h2, Bool.not_true, Bool.or_self, Bool.false_eq_true, if_false]
      exact ⟨_, _, rfl, q⟩
theorem fAppend_ok (e bytes : Nat) (x y : Opd) : OpOk (fAppend e bytes x y) (.append e bytes x y) := fun g h k q => by
  unfold fAppend at q
  rw [fOpd_eq, fOpd_eq] at q
  obtain ⟨n, h1, q⟩ := fLenV_ok q
  obtain ⟨new, h2, q⟩ := fFirst_ok q
  obtain ⟨v, h', h3, q⟩ := fAppend1_ok q
  exact ⟨v, h', by simp only [evOp, h1, h2, opt]; exact h3, q⟩
theorem fCopy_ok (e : Nat) (x y : Opd) : OpOk (fCopy e x y) (.copy e x y) := fun g h k q => by
  unfold fCopy at q
  rw [fOpd_eq, fOpd_eq] at q
  simp only [evOp]
  generalize x.ev g = cv at q ⊢
  cases cv <;> try exact absurd q Bool.false_ne_true
  · rename_i id off dlen cp
    obtain ⟨sl, h1, q⟩ := fLenV_ok (v := y.ev g) (c := fun sl => fNat (@Bool.rec (fun _ => Nat → Nat → Nat) (fun a _ => a) (fun _ b => b) (Nat.ble sl dlen) dlen sl) fun n => fFirst (y.ev g) h e n fun cs => fWrite h id off cs fun h => k (.int .i64 (.ofNat n)) h) q
    rw [fNat_eq, min_rec] at q
    obtain ⟨cs, h2, q⟩ := fFirst_ok q
    obtain ⟨h', h3, q⟩ := fWrite_ok q
    simp only [h1, opt, h2, h3]
    exact ⟨_, _, rfl, q⟩
  · obtain ⟨sl, h1, q⟩ := fLenV_ok (v := y.ev g) (c := fun _ => k (.int .i64 (.ofNat 0)) h) q
    simp only [h1, opt]
    exact ⟨_, _, rfl, q⟩
theorem fMaxs_ok : ∀ {ys : List Opd} {m : Bool} {g : RT} {v : AV} {k : K1}, fMaxs ys m g v k = true → ∃ u, maxs m g ys v = some u ∧ k u = true
  | [], m, g, v, k, q => ⟨v, rfl, q⟩
  | y :: ys, m, g, v, k, q => by
    have q : fOpd y g (fun w => fTwo m v w fun v => fMaxs ys m g v k) = true := q
    rw [fOpd_eq] at q
    obtain ⟨u, h1, q⟩ := fTwo_ok q
    obtain ⟨z, h2, q⟩ := fMaxs_ok q
    exact ⟨z, by simp only [maxs, h1, opt]; exact h2, q⟩
theorem fMaxmin_ok (m : Bool) (x : Opd) (ys : List Opd) : OpOk (fMaxmin m x ys) (.maxmin m x ys) := fun g h k q => by
  unfold fMaxmin at q
  rw [fOpd_eq] at q
  obtain ⟨v, h1, q⟩ := fMaxs_ok q
  exact ⟨v, h, by simp only [evOp, h1]; rfl, q⟩
theorem fInt2_ok {a b : AV} {k : Nat → Nat → Bool} (q : fInt2 a b k = true) : ∃ ka kb m n, a = .int ka (.ofNat m) ∧ b = .int kb (.ofNat n) ∧ k m n = true := by
  cases a <;> try exact absurd q Bool.false_ne_true
  rename_i ka x
  cases x with
  | negSucc x => exact absurd q Bool.false_ne_true
  | ofNat m =>
    cases b <;> try exact absurd q Bool.false_ne_true
    rename_i kb y
    cases y with
    | negSucc y => exact absurd q Bool.false_ne_true
    | ofNat n => exact ⟨ka, kb, m, n, rfl, rfl, q⟩
theorem fMakeSlice_ok (e bytes : Nat) (zero : List AV) (l c : Opd) : OpOk (fMakeSlice e bytes zero l c) (.makeSlice e bytes zero l c) := fun g h k q => by
  unfold fMakeSlice at q
  rw [fOpd_eq, fOpd_eq] at q
  obtain ⟨ka, kb, m, n, ha, hb, q⟩ := fInt2_ok q
  obtain ⟨h1, q⟩ := fIf_and q
  obtain ⟨h2, q⟩ := fIf_and q
  rw [fList_eq, fNew_eq] at q
  have h1 := Nat.le_of_ble_eq_true h1
  have h2 : n * (bytes + 1) ≤ 1099511627776 := Nat.le_of_ble_eq_true h2
  simp only [evOp, ha, hb]
  rw [if_pos ⟨by simp, by simpa using h1, by simpa using h2⟩]
  exact ⟨_, _, rfl, q⟩
theorem fMakeMap_ok : OpOk fMakeMap .makeMap := fun g h k q => by
  unfold fMakeMap at q
  rw [fNew_eq] at q
  exact ⟨_, _, rfl, q⟩
theorem fMakeFunc_ok (fn : Fn) (a b : List Opd) : OpOk (fMakeFunc fn a b) (.makeFunc fn a b) := fun g h k q => by
  unfold fMakeFunc at q
  rw [fOpds_eq, fOpds_eq] at q
  exact ⟨_, _, rfl, q⟩

theorem fOp_ok (o : AOp) : OpOk (fOp o) o := by
  cases o
  case mv x => exact fMv_ok x
  case pick => exact fPick_ok _ _ _
  case bin => exact fBin_ok _ _ _
  case un => exact fUn_ok _ _
  case toInt => exact fToInt_ok _ _
  case load1 => exact fLoad1_ok _
  case loadN => exact fLoadN_ok _ _
  case store => exact fStore_ok _ _ _
  case fieldAt => exact fField_ok _ _
  case indexArr => exact fIndexArr_ok _ _ _ _
  case indexSl => exact fIndexSl_ok _ _ _
  case extract => exact fExtract_ok _ _
  case nilCheck => exact fNilCheck_ok _
  case sliceSl => exact fSliceSl_ok
  case build => exact fBuild_ok _ _
  case buildSlice => exact fBuildSlice_ok _ _ _ _
  case box => exact fBox_ok _ _
  case alloc => exact fAlloc_ok _
  case makeSlice => exact fMakeSlice_ok _ _ _ _ _
  case makeMap => exact fMakeMap_ok
  case makeFunc => exact fMakeFunc_ok _ _ _
  case append => exact fAppend_ok _ _ _ _
  case copy => exact fCopy_ok _ _ _
  case maxmin => exact fMaxmin_ok _ _ _
  case sameSl x => exact fHeavy_ok (.sameSl x)
  case bytesOf x => exact fHeavy_ok (.bytesOf x)
  case mapUpdate => exact fHeavy_ok (.mapUpdate _ _ _ _ _)
  case appendZ => exact fHeavy_ok (.appendZ _ _ _ _ _)
  case call => exact fun g h k q => absurd q Bool.false_ne_true
  case pcall => exact fun g h k q => absurd q Bool.false_ne_true
  case callv => exact fun g h k q => absurd q Bool.false_ne_true
  case bad => exact fun g h k q => absurd q Bool.false_ne_true
  case eql a b c d e => exact fPure_ok (o := .eql a b c d e) (by simp [heapUse])
  case eqnil a b c d => exact fPure_ok (o := .eqnil a b c d) (by simp [heapUse])
  case same x => exact fPure_ok (o := .same x) (by simp [heapUse])
  case strOf x => exact fPure_ok (o := .strOf x) (by simp [heapUse])
  case indexStr a b => exact fPure_ok (o := .indexStr a b) (by simp [heapUse])
  case indexAgg a b c d e => exact fPure_ok (o := .indexAgg a b c d e) (by simp [heapUse])
  case part a b c d => exact fPure_ok (o := .part a b c d) (by simp [heapUse])
  case sliceArr a b c d e f => exact fPure_ok (o := .sliceArr a b c d e f) (by simp [heapUse])
  case sliceStr a b c => exact fPure_ok (o := .sliceStr a b c) (by simp [heapUse])
  case lookup a b c d e f => exact fPure_ok (o := .lookup a b c d e f) (by simp [heapUse])
  case len k x => exact fPure_ok (o := .len k x) (by cases k <;> simp [heapUse])
  case cap x => exact fPure_ok (o := .cap x) (by simp [heapUse])
  case toArr a b => exact fPure_ok (o := .toArr a b) (by simp [heapUse])
  case add64 a b c => exact fPure_ok (o := .add64 a b c) (by simp [heapUse])
end Go.Am

/- The evaluator for the kernel is the abstract machine: codes, functions. -/
namespace Go.Am

def FCok (f : FC) (f' : List AV → AH → Option (AV × AH)) : Prop := ∀ args h k, f args h k = true → ∃ v h', f' args h = some (v, h') ∧ k v h' = true
def FYok (Y : FY) (Y' : YH) : Prop := ∀ l f, Y l = some f → ∃ f', Y' l = some f' ∧ FCok f f'
def FHok (H : FH) (H' : CallH) : Prop := ∀ Y Y', FYok Y Y' → ∀ f, FCok (H Y f) (H' Y' f)
def FXok (f : FX) (f' : St → Option (AX × St)) : Prop := ∀ g h k, f g h k = true → ∃ x g' h', f' (g, h) = some (x, (g', h')) ∧ k x g' h' = true

theorem noY_ok : FYok noY (fun _ => none) := fun l f h => by cases h

section
variable {Y : FY} {Y' : YH} {H : FH} {H' : CallH}

theorem fOper_ok (hY : FYok Y Y') (hH : FHok H H') (o : AOp) (g : RT) (h : AH) (k : K2) (q : fOper o Y H g h k = true) : ∃ v h', evOper Y' H' o g h = some (v, h') ∧ k v h' = true := by
  by_cases hn : noCall o = true
  · rw [evOper_noCall hn]
    cases o <;> first
      | exact fOp_ok _ g h k q
      | cases hn
  · cases o <;> first
      | exact absurd rfl hn
      | skip
    case call f args =>
      have q : fOpds args g (fun vs => H Y f vs h k) = true := q
      rw [fOpds_eq] at q
      exact hH Y Y' hY f _ h k q
    case pcall f args =>
      have q : fOpds args g (fun vs => fIf (vs.all AV.flat) (H noY f vs ⟨32, 32, [], .nil⟩ fun v _ => fIf v.flat (k v h) false) false) = true := q
      rw [fOpds_eq] at q
      obtain ⟨h1, q⟩ := fIf_and q
      obtain ⟨v, h', h2, q⟩ := hH noY _ noY_ok f _ _ _ q
      obtain ⟨h3, q⟩ := fIf_and q
      refine ⟨v, h, ?_, q⟩
      simp only [evOper]
      rw [if_pos h1, h2]
      simp only [opt, h3, if_true]
    case callv f args =>
      have q : fOpd f g (fun fv => fOpds args g fun vs => fCallV fv Y H vs h k) = true := q
      rw [fOpd_eq, fOpds_eq] at q
      simp only [evOper]
      generalize f.ev g = fv at q ⊢
      cases fv <;> try exact absurd q Bool.false_ne_true
      rename_i fn first captured
      cases fn <;> try exact absurd q Bool.false_ne_true
      · rename_i i
        have q : fApp (args.map (·.ev g)) captured (fun l => fApp first l fun l => H Y i l h k) = true := q
        rw [fApp_eq, fApp_eq, ← List.append_assoc] at q
        exact hH Y Y' hY i _ h k q
      · rename_i l
        obtain ⟨h1, q2⟩ := fIf_and (b := Nat.beq first.length 0) q
        obtain ⟨h2, q3⟩ := fIf_and (b := Nat.beq captured.length 0) q2
        clear q q2
        have h1 : first = [] := List.eq_nil_of_length_eq_zero (by simpa [Nat.beq_eq] using h1)
        have h2 : captured = [] := List.eq_nil_of_length_eq_zero (by simpa [Nat.beq_eq] using h2)
        subst h1 h2
        cases hl : Y l with
        | none => rw [hl] at q3; exact absurd q3 Bool.false_ne_true
        | some f =>
          rw [hl] at q3
          obtain ⟨f', e1, e2⟩ := hY l f hl
          simp only [e1, opt]
          exact e2 _ h k q3

theorem fWants_eq (gd : Option (Nat × Bool)) (g : RT) (k : Bool → Bool) : fWants gd g k = k (wants g gd) := by
  cases gd with
  | none => rfl
  | some p =>
    obtain ⟨i, w⟩ := p
    show fGet (Pth.of i) g (fun v => fBool (fIs v w) k) = _
    rw [fGet_eq, fBool_eq]
    congr 1
    simp only [wants, RT.geti]
    generalize RT.get (Pth.of i) g = v
    cases v <;> try rfl
    rename_i c
    cases c <;> cases w <;> rfl

theorem fOps_ok (hY : FYok Y Y') (hH : FHok H H') : ∀ {l : List AOper} {g : RT} {h : AH} {k : KG}, fOps l Y H g h k = true → ∃ g' h', evOps Y' H' l (g, h) = some (g', h') ∧ k g' h' = true
  | [], g, h, k, q => ⟨g, h, rfl, q⟩
  | ⟨d, op, gd⟩ :: l, g, h, k, q => by
    have run : ∀ {g h}, wants g gd = true → fOper op Y H g h (fun v h => fDst d v g fun g => fOps l Y H g h k) = true → ∃ g' h', evOps Y' H' (⟨d, op, gd⟩ :: l) (g, h) = some (g', h') ∧ k g' h' = true := by
      intro g h hw q
      obtain ⟨v, h1, e1, q⟩ := fOper_ok hY hH op g h _ q
      rw [fDst_eq] at q
      obtain ⟨g', h', e2, q⟩ := fOps_ok hY hH q
      refine ⟨g', h', ?_, q⟩
      simp only [evOps]
      rw [if_pos hw, e1]
      exact e2
    cases gd with
    | none => exact run rfl q
    | some p =>
      have q : fWants (some p) g (fun b => fIf b (fOper op Y H g h fun v h => fDst d v g fun g => fOps l Y H g h k) (fDst d undef g fun g => fOps l Y H g h k)) = true := q
      rw [fWants_eq] at q
      rcases fIf_cases q with ⟨h1, q⟩ | ⟨h1, q⟩
      · exact run h1 q
      · rw [fDst_eq] at q
        obtain ⟨g', h', e2, q⟩ := fOps_ok hY hH q
        refine ⟨g', h', ?_, q⟩
        simp only [evOps]
        rw [if_neg (by rw [h1]; simp)]
        exact e2

theorem fMulti1_ok (hY : FYok Y Y') (hH : FHok H H') {kd : Nat} {o : AOper} {g : RT} {h : AH} {k : AV → AH → List Rng × List Rng → Bool} (q : fMulti1 kd o.op Y H g h k = true) :
    ∃ v h' a, k v h' a = true ∧ ∀ l acc, wants g o.guard = true → evMulti Y' H' ((kd, o) :: l) (g, h) acc = evMulti Y' H' l (setDst g o.dst v, h') (a :: acc) := by
  unfold fMulti1 at q
  rcases fIf_cases q with ⟨h0, q⟩ | ⟨h0, q⟩
  · have h0 : kd = 0 := by simpa [Nat.beq_eq] using h0
    obtain ⟨v, h1, e1, q⟩ := fOper_ok hY hH o.op g h _ q
    refine ⟨v, h, _, q, fun l acc hw => ?_⟩
    rw [evMulti, if_pos hw, if_pos h0, e1]
    rfl
  · have h0 : kd ≠ 0 := fun e => by rw [e] at h0; cases h0
    rcases fIf_cases q with ⟨h5, q⟩ | ⟨h5, q⟩
    · have h5 : kd = 5 := by simpa [Nat.beq_eq] using h5
      obtain ⟨v, h1, e1, q⟩ := fOper_ok hY hH o.op g h _ q
      refine ⟨v, h1, _, q, fun l acc hw => ?_⟩
      rw [evMulti, if_pos hw, if_neg h0, if_pos h5, e1]
      rfl
    · have h5 : kd ≠ 5 := fun e => by rw [e] at h5; cases h5
      rcases fIf_cases q with ⟨h4, q⟩ | ⟨h4, q⟩
      · have h4 : kd = 4 := by simpa [Nat.beq_eq] using h4
        obtain ⟨hf, q⟩ := fIf_not q
        have hf : ¬ h.next < h.floor := fun e => by
          have : Nat.blt h.next h.floor = true := by rw [Nat.blt_eq]; exact e
          rw [this] at hf; cases hf
        obtain ⟨v, h1, e1, q⟩ := fOper_ok hY hH o.op g _ _ q
        rw [fAH_eq] at q
        refine ⟨v, _, _, q, fun l acc hw => ?_⟩
        rw [evMulti, if_pos hw, if_neg h0, if_neg h5, if_pos h4, if_neg hf, e1]
        rfl
      · have h4 : kd ≠ 4 := fun e => by rw [e] at h4; cases h4
        rw [fAH_eq] at q
        obtain ⟨v, h1, e1, q⟩ := fOper_ok hY hH o.op g _ _ q
        rw [fAH_eq] at q
        refine ⟨v, _, _, q, fun l acc hw => ?_⟩
        rw [evMulti, if_pos hw, if_neg h0, if_neg h5, if_neg h4]
        simp only [e1]
        rfl

theorem fMulti_ok (hY : FYok Y Y') (hH : FHok H H') : ∀ {l : List (Nat × AOper)} {g : RT} {h : AH} {acc : List (List Rng × List Rng)} {k : KM}, fMulti l Y H g h acc k = true →
    ∃ g' h' acc', evMulti Y' H' l (g, h) acc = some ((g', h'), acc'.reverse) ∧ k g' h' acc' = true
  | [], g, h, acc, k, q => ⟨g, h, acc, rfl, q⟩
  | (kd, o) :: l, g, h, acc, k, q => by
    have q : fWants o.guard g (fun b => fIf b (fMulti1 kd o.op Y H g h fun v h' a => fDst o.dst v g fun g => fMulti l Y H g h' (a :: acc) k) (fDst o.dst undef g fun g => fMulti l Y H g h (([], []) :: acc) k)) = true := q
    rw [fWants_eq] at q
    rcases fIf_cases q with ⟨h1, q⟩ | ⟨h1, q⟩
    · obtain ⟨v, h', a, q, e⟩ := fMulti1_ok hY hH q
      rw [fDst_eq] at q
      obtain ⟨g2, h2, acc2, e2, q⟩ := fMulti_ok hY hH q
      exact ⟨g2, h2, acc2, by rw [e l acc h1]; exact e2, q⟩
    · rw [fDst_eq] at q
      obtain ⟨g2, h2, acc2, e2, q⟩ := fMulti_ok hY hH q
      exact ⟨g2, h2, acc2, by rw [evMulti, if_neg (by rw [h1]; simp)]; exact e2, q⟩

theorem fIter_ok {f : FX} {f' : St → Option (AX × St)} (hf : FXok f f') : ∀ n, FXok (fIter n f) (iter f' n)
  | 0 => fun g h k q => absurd q Bool.false_ne_true
  | n + 1 => fun g h k q => by
    obtain ⟨x, g1, h1, e1, q⟩ := hf g h _ q
    unfold iter
    cases x with
    | normal =>
      obtain ⟨y, g2, h2, e2, q⟩ := fIter_ok hf n g1 h1 k q
      exact ⟨y, g2, h2, by rw [e1]; exact e2, q⟩
    | exit id => exact ⟨.exit id, g1, h1, by rw [e1], q⟩
    | ret => exact ⟨.ret, g1, h1, by rw [e1], q⟩

theorem fRound_ok {l : Nat} {ps : List Nat} {as body : AC} {g : RT} {fa fb : FX} {lf : Nat} (ha : FXok fa (evCode H' lf true Y' as)) (hb : FXok fb (evCode H' lf true Y' body)) : FCok (fRound l ps g fa fb) (roundV H' lf Y' l ps as body g) := by
  intro args h k q
  unfold fRound at q
  unfold roundV
  split at q
  · rename_i p0 hlo
    rw [hlo]
    simp only
    split at q
    · rename_i g1 hs
      rw [hs]
      simp only [opt]
      obtain ⟨x, g2, h2, e1, q⟩ := ha _ _ _ q
      rw [e1]
      split at q
      · split at q
        · rename_i p hl2
          obtain ⟨h3, e3, q⟩ := fPut_ok q
          obtain ⟨x2, g4, h4, e4, q⟩ := hb _ _ _ q
          obtain ⟨hm, q⟩ := fIf_and q
          split at q
          · rename_i r er
            rw [fAH_eq] at q
            obtain ⟨v, h5⟩ := r
            refine ⟨v, _, ?_, q⟩
            simp only [hl2, e3, opt, e4, hm, if_true, er]
          · exact absurd q Bool.false_ne_true
        · exact absurd q Bool.false_ne_true
      · exact absurd q Bool.false_ne_true
    · exact absurd q Bool.false_ne_true
  · exact absurd q Bool.false_ne_true
end

theorem fCode_ok (lf : Nat) : ∀ (c : AC) (rd : Bool) {Y : FY} {Y' : YH} {H : FH} {H' : CallH}, FYok Y Y' → FHok H H' → FXok (fCode c H lf rd Y) (evCode H' lf rd Y' c)
  | .skip, rd, Y, Y', H, H', hY, hH => fun g h k q => ⟨.normal, g, h, rfl, q⟩
  | .ops l, rd, Y, Y', H, H', hY, hH => fun g h k q => by
    obtain ⟨g', h', e, q⟩ := fOps_ok hY hH (l := l) (k := fun g h => k .normal g h) q
    exact ⟨.normal, g', h', by simp only [evCode, e, opt], q⟩
  | .multi l ps, rd, Y, Y', H, H', hY, hH => fun g h k q => by
    obtain ⟨g', h', acc, e, q⟩ := fMulti_ok hY hH (l := l) (acc := []) (k := fun g h acc => fIf (pairsOk acc.reverse ps) (k .normal g h) false) q
    obtain ⟨h1, q⟩ := fIf_and q
    exact ⟨.normal, g', h', by simp only [evCode, e, opt, h1, if_true], q⟩
  | .seq a b, rd, Y, Y', H, H', hY, hH => fun g h k q => by
    obtain ⟨x, g1, h1, e1, q⟩ := fCode_ok lf a rd hY hH g h _ q
    cases x with
    | normal =>
      obtain ⟨y, g2, h2, e2, q⟩ := fCode_ok lf b rd hY hH g1 h1 k q
      exact ⟨y, g2, h2, by simp only [evCode, e1]; exact e2, q⟩
    | exit id => exact ⟨.exit id, g1, h1, by simp only [evCode, e1], q⟩
    | ret => exact ⟨.ret, g1, h1, by simp only [evCode, e1], q⟩
  | .cond c a b, rd, Y, Y', H, H', hY, hH => fun g h k q => by
    have q : fOpd c g _ = true := q
    rw [fOpd_eq] at q
    simp only [evCode]
    generalize c.ev g = v at q ⊢
    cases v <;> try exact absurd q Bool.false_ne_true
    rename_i t
    cases t with
    | true => exact fCode_ok lf a rd hY hH g h k q
    | false => exact fCode_ok lf b rd hY hH g h k q
  | .block id c, rd, Y, Y', H, H', hY, hH => fun g h k q => by
    obtain ⟨x, g1, h1, e1, q⟩ := fCode_ok lf c rd hY hH g h _ q
    cases x with
    | normal => exact ⟨.normal, g1, h1, by simp only [evCode, e1], q⟩
    | exit i =>
      rcases fIf_cases (b := Nat.beq i id) q with ⟨h2, q⟩ | ⟨h2, q⟩
      · have h2 : i = id := by simpa [Nat.beq_eq] using h2
        exact ⟨.normal, g1, h1, by simp only [evCode, e1, if_pos h2], q⟩
      · have h2 : i ≠ id := fun e => by
          have : Nat.beq i id = true := by rw [Nat.beq_eq]; exact e
          rw [this] at h2; cases h2
        exact ⟨.exit i, g1, h1, by simp only [evCode, e1, if_neg h2], q⟩
    | ret => exact ⟨.ret, g1, h1, by simp only [evCode, e1], q⟩
  | .loop c, rd, Y, Y', H, H', hY, hH => fIter_ok (fCode_ok lf c rd hY hH) lf
  | .rfun f ps as body, rd, Y, Y', H, H', hY, hH => fun g h k q => by
    obtain ⟨h0, q⟩ := fIf_not (b := rd) q
    rw [fOpd_eq] at q
    simp only [evCode]
    rw [if_neg (by rw [h0]; simp)]
    generalize f.ev g = fv at q ⊢
    unfold fRfun at q
    split at q
    · rename_i i first captured
      rw [fNew_eq, fNew_eq, fApp_eq] at q
      have hY2 : FYok (fun j => if j = ((h.new (.dfr false)).2.new (.loop .ready none)).1 then some (fRound ((h.new (.dfr false)).2.new (.loop .ready none)).1 ps g (fCode as H lf true Y) (fCode body H lf true Y)) else Y j)
          (fun j => if j = ((h.new (.dfr false)).2.new (.loop .ready none)).1 then some (roundV H' lf Y' ((h.new (.dfr false)).2.new (.loop .ready none)).1 ps as body g) else Y' j) := by
        intro j f hj
        dsimp only at hj ⊢
        split at hj
        · rename_i ej
          injection hj with hj
          subst hj
          rw [if_pos ej]
          exact ⟨_, rfl, fRound_ok (fCode_ok lf as true hY hH) (fCode_ok lf body true hY hH)⟩
        · rename_i ej
          rw [if_neg ej]
          exact hY j f hj
      obtain ⟨v, h3, e1, q⟩ := hH _ _ hY2 i _ _ _ q
      split at q
      · rename_i st p hl
        have e1' : H' (fun j => if j = ((h.new (.dfr false)).2.new (.loop .ready none)).1 then some (roundV H' lf Y' ((h.new (.dfr false)).2.new (.loop .ready none)).1 ps as body g) else Y' j) i (first ++ [AV.func (.yield ((h.new (.dfr false)).2.new (.loop .ready none)).1) [] []] ++ captured) ((h.new (.dfr false)).2.new (.loop .ready none)).2 = some (v, h3) := by
          rw [List.append_assoc]
          exact e1
        have fin : st ≠ .busy → fPut h3 ((h.new (.dfr false)).2.new (.loop .ready none)).1 (some (.loop .exhausted p)) (fun h4 => k (pendEx p) g { h4 with marks := (h.new (.dfr false)).1 :: h4.marks }) = true → ∃ x g' h', (opt (H' (fun j => if j = ((h.new (.dfr false)).2.new (.loop .ready none)).1 then some (roundV H' lf Y' ((h.new (.dfr false)).2.new (.loop .ready none)).1 ps as body g) else Y' j) i (first ++ [AV.func (.yield ((h.new (.dfr false)).2.new (.loop .ready none)).1) [] []] ++ captured) ((h.new (.dfr false)).2.new (.loop .ready none)).2) fun (_, h_1) =>
              match h_1.get ((h.new (.dfr false)).2.new (.loop .ready none)).1 with
              | some (.loop st p) => if st = .busy then none else opt (h_1.put ((h.new (.dfr false)).2.new (.loop .ready none)).1 (some (.loop .exhausted p))) fun h_2 =>
                match p with
                | none => some (AX.normal, (g, { h_2 with marks := (h.new (.dfr false)).1 :: h_2.marks }))
                | some x => some (x, (g, { h_2 with marks := (h.new (.dfr false)).1 :: h_2.marks }))
              | _ => none) = some (x, (g', h')) ∧ k x g' h' = true := by
          intro hst q
          obtain ⟨h4, e4, q⟩ := fPut_ok q
          rw [e1']
          simp only [opt, hl, if_neg hst, e4]
          cases p with
          | none => exact ⟨_, _, _, rfl, q⟩
          | some x => exact ⟨_, _, _, rfl, q⟩
        split at q
        · exact absurd q Bool.false_ne_true
        · exact fin (by assumption) (by cases p <;> exact q)
      · exact absurd q Bool.false_ne_true
    · exact absurd q Bool.false_ne_true
  | .exit id, rd, Y, Y', H, H', hY, hH => fun g h k q => ⟨.exit id, g, h, rfl, q⟩
  | .ret, rd, Y, Y', H, H', hY, hH => fun g h k q => ⟨.ret, g, h, rfl, q⟩
  | .fail n, rd, Y, Y', H, H', hY, hH => fun g h k q => absurd q Bool.false_ne_true

theorem fRV_ok {r : RV} {g : RT} {h : AH} {k : K1} (q : fRV r g h k = true) : ∃ v, evRV g h r = some v ∧ k v = true := by
  cases r with
  | reg p =>
    have q : fGet (Pth.of p) g k = true := q
    rw [fGet_eq] at q
    exact ⟨_, rfl, q⟩
  | cell p n agg =>
    have q : fGet (Pth.of p) g _ = true := q
    rw [fGet_eq] at q
    simp only [evRV, RT.geti]
    generalize RT.get (Pth.of p) g = v at q ⊢
    cases v <;> try exact absurd q Bool.false_ne_true
    rename_i id off
    have q : fIf agg (fCells h id off n fun cs => k (.agg cs)) (fRow h id fun _ cs _ => fNth cs off k) = true := q
    rcases fIf_cases q with ⟨h1, q⟩ | ⟨h1, q⟩
    · obtain ⟨cs, e1, q⟩ := fCells_ok q
      exact ⟨_, by simp only [if_pos h1, e1, opt], q⟩
    · obtain ⟨e, cs, kd, e1, q⟩ := fRow_ok q
      obtain ⟨v, e2, q⟩ := fNth_ok q
      exact ⟨v, by show (if agg = true then _ else h.cell id off) = some v; rw [if_neg (by rw [h1]; simp)]; simp only [AH.cell, e1, e2], q⟩
theorem fRVs_ok : ∀ {l : List RV} {g : RT} {h : AH} {k : KL}, fRVs l g h k = true → ∃ vs, evRVs g h l = some vs ∧ k vs = true
  | [], g, h, k, q => ⟨[], rfl, q⟩
  | r :: l, g, h, k, q => by
    obtain ⟨v, e1, q⟩ := fRV_ok (r := r) (k := fun v => fRVs l g h fun vs => k (v :: vs)) q
    obtain ⟨vs, e2, q⟩ := fRVs_ok q
    exact ⟨v :: vs, by simp only [evRVs, e1, e2, opt], q⟩
theorem fArgs_eq : ∀ (l : List AV) (i : Nat) (g : RT) (k : RT → Bool), fArgs l i g k = k (argRegs l i g)
  | [], _, _, _ => rfl
  | v :: l, i, g, k => by
    show fSet (Pth.of i) g v (fun g => fNat (Nat.succ i) fun i => fArgs l i g k) = _
    rw [fSet_eq, fNat_eq, fArgs_eq l]
    rfl
theorem fEnd_ok {rs : List RV} {g : RT} {h : AH} {ms : List Nat} {k : K2} (q : fEnd rs g h ms k = true) : ∃ h2 vs, takeMarks h.marks h = some h2 ∧ evRVs g h2 rs = some vs ∧ k (retV vs) { h2 with marks := ms } = true := by
  unfold fEnd at q
  cases hm : h.marks with
  | nil =>
    rw [hm] at q
    obtain ⟨vs, e1, q⟩ := fRVs_ok (l := rs) (g := g) (h := h) (k := fun vs => k (retV vs) { h with marks := ms }) q
    exact ⟨h, vs, rfl, e1, q⟩
  | cons m l =>
    rw [hm] at q
    dsimp only at q
    rw [hm] at q
    cases ht : takeMarks (m :: l) h with
    | none => rw [ht] at q; exact absurd q Bool.false_ne_true
    | some h2 =>
      rw [ht] at q
      have q : fAH h2 (fun h' => fRVs rs g h' fun vs => k (retV vs) { h' with marks := ms }) = true := q
      rw [fAH_eq] at q
      obtain ⟨vs, e1, q⟩ := fRVs_ok q
      exact ⟨h2, vs, rfl, e1, q⟩

theorem fFn_ok (C : FuncId → Option AF) (lf : Nat) : ∀ n, FHok (fFn C lf n) (evFn C lf n)
  | 0 => fun Y Y' hY f args h k q => absurd q Bool.false_ne_true
  | n + 1 => fun Y Y' hY f args h k q => by
    unfold evFn
    have q : @Option.rec AF (fun _ => FH → Nat → FY → List AV → AH → K2 → Bool) (fun _ _ _ _ _ _ => false)
      (fun fn H lf Y args h k => fIf (Nat.ble args.length fn.nt) (fArgs args 0 .nil fun g => fCode fn.body H lf false Y g { h with marks := [] } fun x g h' =>
        @AX.rec (fun _ => List RV → RT → AH → List Nat → K2 → Bool) fEnd (fun _ _ _ _ _ _ => false) fEnd x fn.results g h' h.marks k) false) (C f) (fFn C lf n) lf Y args h k = true := q
    cases hc : C f with
    | none => rw [hc] at q; exact absurd q Bool.false_ne_true
    | some fn =>
      rw [hc] at q
      obtain ⟨h1, q⟩ := fIf_and q
      rw [fArgs_eq] at q
      obtain ⟨x, g1, h1', e1, q⟩ := fCode_ok lf fn.body false hY (fFn_ok C lf n) _ _ _ q
      simp only [opt]
      rw [if_neg (by have := Nat.le_of_ble_eq_true h1; omega), e1]
      cases x with
      | normal =>
        obtain ⟨h2, vs, e2, e3, q⟩ := fEnd_ok (rs := fn.results) (g := g1) (h := h1') (ms := h.marks) (k := k) q
        exact ⟨_, _, by simp only [e2, e3], q⟩
      | exit id => exact absurd q Bool.false_ne_true
      | ret =>
        obtain ⟨h2, vs, e2, e3, q⟩ := fEnd_ok (rs := fn.results) (g := g1) (h := h1') (ms := h.marks) (k := k) q
        exact ⟨_, _, by simp only [e2, e3], q⟩
end Go.Am

/- Tables of functions; tables of numbers; a run of the evaluator for the kernel. -/
namespace Go.Am

inductive FT where
  | nil
  | node (o : Option AF) (l r : FT)
noncomputable def FT.fget (t : FT) : Nat → Option AF :=
  @FT.rec (fun _ => Nat → Option AF) (fun _ => none)
    (fun o _ _ ihl ihr n => @Nat.rec (fun _ => Option AF) o (fun m _ => @Nat.rec (fun _ => Option AF) (ihl (Nat.div m 2)) (fun _ _ => ihr (Nat.div m 2)) (Nat.mod m 2)) n) t

/-- every function of the table is the program's -/
def FT.ok (P : Program) : FT → (Nat → Nat) → Prop
  | .nil, _ => True
  | .node o l r, i => (∀ fn, o = some fn → compFn P (i 0) = some fn) ∧ l.ok P (fun m => i (2 * m + 1)) ∧ r.ok P (fun m => i (2 * m + 2))

theorem FT.ok_get {P : Program} : ∀ {t : FT} {i : Nat → Nat}, t.ok P i → ∀ n fn, t.fget n = some fn → compFn P (i n) = some fn
  | .nil, i, h, n, fn, e => by cases e
  | .node o l r, i, h, 0, fn, e => h.1 fn e
  | .node o l r, i, h, n + 1, fn, e => by
    have e : (@Nat.rec (fun _ => Option AF) (l.fget (Nat.div n 2)) (fun _ _ => r.fget (Nat.div n 2)) (Nat.mod n 2)) = some fn := e
    rw [natRec_if] at e
    split at e
    · rename_i hm
      have := FT.ok_get h.2.1 _ fn e
      have hm : n % 2 = 0 := hm
      rw [show 2 * Nat.div n 2 + 1 = n + 1 by show 2 * (n / 2) + 1 = n + 1; omega] at this
      exact this
    · rename_i hm
      have := FT.ok_get h.2.2 _ fn e
      have hm : ¬ n % 2 = 0 := hm
      rw [show 2 * Nat.div n 2 + 2 = n + 1 by show 2 * (n / 2) + 2 = n + 1; omega] at this
      exact this

def mkT (l : List (Nat × AO)) : HT := l.foldl (fun t p => t.set p.1 (some p.2)) .nil
theorem mkT_get : ∀ {l : List (Nat × AO)} {t : HT} {id : Nat} {o : AO}, (l.foldl (fun t p => t.set p.1 (some p.2)) t).get id = some o → (id, o) ∈ l ∨ t.get id = some o
  | [], _, _, _, h => .inr h
  | p :: l, t, id, o, h => by
    rcases mkT_get (l := l) h with q | q
    · exact .inl (List.mem_cons_of_mem _ q)
    · rw [HT.get_set] at q
      split at q
      · rename_i e
        injection q with q
        subst e
        subst q
        exact .inl (List.mem_cons_self ..)
      · exact .inr q
theorem mkT_mem {l : List (Nat × AO)} {id : Nat} {o : AO} (h : (mkT l).get id = some o) : (id, o) ∈ l := by
  rcases mkT_get h with q | q
  · exact q
  · rw [HT.get_nil] at q; cases q


def rowOk : Option AO → Nat → Bool
  | none, _ => true
  | some (.row _ cs .ro), i => decide (i < 32) && cs.all AV.flat
  | _, _ => false
def tabOkB : HT → (Nat → Nat) → Bool
  | .nil, _ => true
  | .node o l r, i => rowOk o (i 0) && tabOkB l (fun m => i (2 * m + 1)) && tabOkB r (fun m => i (2 * m + 2))
theorem tabOk_get : ∀ {t : HT} {i : Nat → Nat}, tabOkB t i = true → ∀ n o, t.get n = some o → i n < 32 ∧ ∃ e cs, o = .row e cs .ro ∧ cs.all AV.flat = true
  | .nil, i, h, n, o, e => by rw [HT.get_nil] at e; cases e
  | .node o' l r, i, h, 0, o, e => by
    simp only [tabOkB, Bool.and_eq_true] at h
    have e : o' = some o := e
    subst e
    have h1 := h.1.1
    unfold rowOk at h1
    split at h1
    · rename_i q; cases q
    · rename_i q
      injection q with q
      subst q
      simp only [Bool.and_eq_true, decide_eq_true_eq] at h1
      exact ⟨h1.1, _, _, rfl, h1.2⟩
    · cases h1
  | .node o' l r, i, h, n + 1, o, e => by
    simp only [tabOkB, Bool.and_eq_true] at h
    have e : (if n % 2 = 0 then l.get (n / 2) else r.get (n / 2)) = some o := e
    split at e
    · have := tabOk_get h.1.2 _ o e
      rw [show 2 * (n / 2) + 1 = n + 1 by omega] at this
      exact this
    · have := tabOk_get h.2 _ o e
      rw [show 2 * (n / 2) + 2 = n + 1 by omega] at this
      exact this
theorem tabOk_of {t : HT} (h : tabOkB t id = true) : TabOk t := fun n o e => tabOk_get h n o e

def isTrue (v : AV) (_ : AH) : Bool := match v with | .bool b => b | _ => false

/-- a run of the evaluator for the kernel -/
theorem run_of_fast {C : FuncId → Option AF} {lf n : Nat} {f : FuncId} {args : List AV} {h : AH} (q : fFn C lf n noY f args h isTrue = true) : ∃ h', evFn C lf n (fun _ => none) f args h = some (.bool true, h') := by
  obtain ⟨v, h', e, q⟩ := fFn_ok C lf n noY _ noY_ok f args h _ q
  cases v <;> try exact absurd q Bool.false_ne_true
  rename_i b
  have : b = true := q
  subst this
  exact ⟨h', e⟩

/-- what a run of the evaluator for the kernel makes known -/
theorem known_of_fast {P : Program} (hmix : P.follows .mixedOrders = true) {t : FT} (ht : t.ok P id) {lf n : Nat} {f : FuncId} {T : HT} (hT : tabOkB T id = true) (q : fFn t.fget lf n noY f [] ⟨32, 32, [], T⟩ isTrue = true) : Known P f T := by
  obtain ⟨h', e⟩ := run_of_fast q
  exact known_of_run (evFn_sound hmix (fun f fn h => FT.ok_get ht f fn h) lf n) (tabOk_of hT) e
end Go.Am

/- States at a loop's head; a function by the logic; slices that are only read. -/
namespace Go.Am

/-- some registers, the others as js has them -/
def ov : List (Nat × AV) → (Nat → AV) → Nat → AV
  | [], js, i => js i
  | (k, v) :: l, js, i => match Nat.beq i k with
    | true => v
    | false => ov l js i
theorem ov_eq {js : Nat → AV} : ∀ {l : List (Nat × AV)} {i : Nat}, (∀ p, p ∈ l → js p.1 = p.2) → ov l js i = js i
  | [], _, _ => rfl
  | (k, v) :: l, i, h => by
    unfold ov
    split
    · rename_i e
      have := Nat.eq_of_beq_eq_true e
      subst this
      exact (h _ (List.mem_cons_self ..)).symm
    · exact ov_eq fun p hp => h p (List.mem_cons_of_mem _ hp)

section
variable {n : Nat} {w0 w : World} {ρ : Env} {g : RT} {h h2 : AH} {a : Act}
/-- the state at a loop's head: registers and objects that are told, all else forgotten -/
theorem Abs.canon (s : Abs n w0 ρ g h a w) (k d : Nat) (hk : 32 ≤ k) (hk2 : k ≤ far) (hd : n + 1 ≤ 2 ^ d) (l : List (Nat × AV)) (l2 : List (Nat × AO)) (hm : h.marks = []) (hfl : h.floor = 32)
    (hl : ∀ p, p ∈ l → p.1 < n ∧ (g.geti p.1).ren (past k) = p.2) (hl2 : ∀ p, p ∈ l2 → p.1 < k ∧ ∃ ob, h.get p.1 = some ob ∧ ob.ren (past k) = p.2) :
    ∃ ρ2 js, Abs n w0 ρ2 (Go.Am.full d (ov l js)) ⟨k, 32, [], mkT l2⟩ a w := by
  have s1 : Abs n w0 (pastE k ρ) (g.ren (past k)) ⟨k, 32, [], mkT l2⟩ a w := s.forget k hk hk2 rfl hm rfl hfl.symm fun id o2 ho => hl2 (id, o2) (mkT_mem ho)
  refine ⟨_, fun i => if i < n then (g.ren (past k)).geti i else undef, s1.full d hd _ (fun i hi => ?_) fun i hi => ?_⟩
  · rw [ov_eq (fun p hp => ?_), if_pos hi]
    obtain ⟨q1, q2⟩ := hl p hp
    rw [if_pos q1, RT.geti_ren]
    exact q2
  · rw [ov_eq (fun p hp => ?_), if_neg (by omega)]
    obtain ⟨q1, q2⟩ := hl p hp
    rw [if_pos q1, RT.geti_ren]
    exact q2
end

section
variable {F : Fence} {m : Nat} {P : Program} {n : Nat} {Q : AX → Act → World → Prop} {a : Act} {w : World}
theorem wSeq {c : AC} (hc : c.isSeq = true) (h : wpA F m P n c.l (fun e a w => match e with | .normal => wpA F m P n c.r Q a w | e => Q e a w) a w) : wpA F m P n c Q a w := by
  cases c <;> first
    | (cases hc; done)
    | exact wpA_seq h
theorem wBlock (id : Nat) {c : AC} (hc : c.isBlock id = true) (h : wpA F m P n c.l (fun e a w => match e with | .exit i => if i = id then Q .normal a w else Q (.exit i) a w | e => Q e a w) a w) : wpA F m P n c Q a w := by
  cases c <;> first
    | (cases hc; done)
    | (have hc := Nat.eq_of_beq_eq_true hc
       subst hc
       exact wpA_block h)
theorem wLoop {c : AC} (hc : c.isLoop = true) (I : Nat → Act → World → Prop) {k : Nat} (h₀ : I k a w) (round : ∀ k a w, I k a w → wpA F m P n c.l (fun e a' w' => match e with | .normal => ∃ j, j < k ∧ I j a' w' | e => Q e a' w') a w) : wpA F m P n c Q a w := by
  cases c <;> first
    | (cases hc; done)
    | exact wpA_loop I h₀ round
theorem kBlock {H : CallH} {lf : Nat} {rd : Bool} {Y : YH} {c : AC} {s s1 : St} (id : Nat) (hc : c.isBlock id = true) (h : evCode H lf rd Y c.l s = some (.normal, s1)) : evCode H lf rd Y c s = some (.normal, s1) := by
  cases c <;> first
    | (cases hc; done)
    | (simp only [AC.l] at h
       simp only [evCode, h])
theorem kSeqX {H : CallH} {lf : Nat} {rd : Bool} {Y : YH} {c : AC} {s s1 : St} {x : AX} (hc : c.isSeq = true) (h1 : evCode H lf rd Y c.l s = some (x, s1)) (hx : x ≠ .normal) : evCode H lf rd Y c s = some (x, s1) := by
  cases c <;> first
    | (cases hc; done)
    | exact evSeqX h1 hx

/-- a function, by the logic of its abstract code -/
theorem calls_of_wpA {f : FuncId} {af : AF} (hc : compFn P f = some af) {ρ : Env} {args : List AV} {xs : List Value} {h : AH} {w : World} (hl : args.length ≤ af.nt) (hd : denL ρ args = some xs) (hr : HRel ρ h w) (hg : GlobOk ρ) (hm : h.marks = [])
    (hfr : ∀ id, h.next ≤ id → ρ id = none) (hro : ∀ id o, h.get id = some o → o.isRo = true)
    (hw : ∀ a, Abs af.nt w ρ (argRegs args 0 .nil) h a w → wpA Fence.wide 0 P af.nt af.body (fun x a' w' => (x = .normal ∨ x = .ret) ∧ ∃ ρ' g' h', Abs af.nt w ρ' g' h' a' w' ∧ h'.marks = [] ∧ evRVs g' h' af.results = some [.bool true]) a w) :
    Calls P f xs.toArray w fun e w' => e = .returned (.bool true) ∧ Still w w' := by
  unfold compFn at hc
  obtain ⟨fn, c1, hc⟩ := opt_some.1 hc
  obtain ⟨c, c2, hc⟩ := opt_some.1 hc
  obtain ⟨rs, c3, hc⟩ := opt_some.1 hc
  split at hc
  · cases hc
  · injection hc with hc
    subst hc
    have hlen := denL_length hd
    refine callsIn_wide.1 (callsIn_of_wp_marks (F := Fence.wide) (n := 0) c1 c2 trivial ?_)
    have hframe : FRel fn.ntmps ρ (argRegs args 0 .nil) ⟨xs.toArray ++ Array.replicate (fn.ntmps - xs.toArray.size) Go.undef, []⟩ := by
      have hnt : args.length ≤ fn.ntmps := hl
      refine ⟨?_, hg⟩
      have h0 : RRel fn.ntmps ρ .nil ⟨(List.replicate (xs.length + (fn.ntmps - xs.length)) Go.undef).toArray, []⟩ := by
        refine ⟨fun i => ?_, by simp; omega⟩
        rw [RT.geti_nil, den_undef]
        congr 1
        simp only [Array.getD_eq_getD_getElem?, List.getElem?_toArray, List.getElem?_replicate]
        split <;> rfl
      have := args_rel (i := 0) hd (by omega) h0
      have e := fold_args xs [] (fn.ntmps - xs.length)
      simp only [List.length_nil, List.nil_append] at e
      rw [e] at this
      have e2 : (xs ++ List.replicate (fn.ntmps - xs.length) Go.undef).toArray = xs.toArray ++ Array.replicate (fn.ntmps - xs.toArray.size) Go.undef := by
        apply Array.ext'
        simp
      rw [e2] at this
      exact this
    have habs : Abs fn.ntmps w ρ (argRegs args 0 .nil) h ⟨xs.toArray ++ Array.replicate (fn.ntmps - xs.toArray.size) Go.undef, []⟩ w := by
      refine ⟨hframe, hr, ⟨rfl, rfl, Nat.le_refl _, fun _ _ => rfl⟩, fun b hb => ?_, fun id h1 _ => hfr id h1, by rw [hm]; rfl⟩
      obtain ⟨id, o, r, q1, q2, _⟩ := hb
      have := q2.2
      rw [hro id o q1] at this
      cases this
    refine wpIn_mono (hw _ habs c rfl) fun e a' w' q => ?_
    have key : ∀ x : AX, ((x = .normal ∨ x = .ret) ∧ ∃ ρ' g' h', Abs fn.ntmps w ρ' g' h' a' w' ∧ h'.marks = [] ∧ evRVs g' h' rs = some [.bool true]) →
        LeavesInM Fence.wide 0 P fn a'.tmps (fun e w' => e = .returned (.bool true) ∧ Still w w') a'.defers .returning w' := by
      rintro x ⟨_, ρ', g', h', q1, q2, q3⟩
      have hde : a'.defers = [] := by
        have := q1.marks
        rw [q2] at this
        exact (Option.some.inj this).symm
      rw [hde]
      obtain ⟨y, d, r⟩ := results_run q1.fr q1.hr c3 q3
      have hy : y = .bool true := (Option.some.inj d).symm
      subst hy
      exact ⟨_, r, rfl, q1.still⟩
    cases e with
    | normal => exact key .normal q
    | ret => exact key .ret q
    | exit id => rcases q.1 with e | e <;> cases e
    | goto l => exact q.elim
    | panic c => exact q.elim
    | outgrown => exact q.elim
end

/-! ### slices that are only read -/
section
variable {Y : YH} {H : CallH} {g : RT} {h : AH} {x : Opd}
theorem indexSl_of {e id off len i : Nat} {c : Cap} {y : Opd} {k : IntKind} (hx : x.ev g = .slice id off len c) (hy : y.ev g = .int k (Int.ofNat i)) (hi : i < len) : evOper Y H (.indexSl e x y) g h = some (.ptr id (off + i * e), h) := by
  have : idxV (.int k (Int.ofNat i)) len = some i := by
    unfold idxV
    simp only
    rw [if_pos ⟨by simp, by simpa using hi⟩]
    rfl
  simp only [evOper, evOp, hx, hy, this, opt]
theorem loadN_of {n id off e : Nat} {cs vs : List AV} {k : RK} (hx : x.ev g = .ptr id off) (hg : h.get id = some (.row e cs k)) (hv : (cs.drop off).take n = vs) (hn : vs.length = n) (h0 : n ≠ 0) : evOper Y H (.loadN n x) g h = some (.agg vs, h) := by
  have hle : off + n ≤ cs.length := by
    rw [← hv, List.length_take, List.length_drop] at hn
    omega
  have : h.cellsAt id off n = some vs := by
    unfold AH.cellsAt
    rw [if_neg h0, hg]
    simp only
    rw [if_pos hle, hv]
  simp only [evOper, evOp, hx, this, opt]
theorem load1_of {id off e : Nat} {cs : List AV} {k : RK} {v : AV} (hx : x.ev g = .ptr id off) (hg : h.get id = some (.row e cs k)) (hv : cs[off]? = some v) : evOper Y H (.load1 x) g h = some (v, h) := by
  have : h.cell id off = some v := by unfold AH.cell; rw [hg]; exact hv
  simp only [evOper, evOp, hx, this, opt]
/-- s[:hi] -/
theorem sliceTo_of {e id off len c hi : Nat} {y : Opd} {k : IntKind} (ph : Bool) (hx : x.ev g = .slice id off len (.fixed c)) (hy : y.ev g = .int k (Int.ofNat hi)) (h1 : hi ≤ c) : evOper Y H (.sliceSl e ph x none (some y) none) g h = some (.slice id off hi (.fixed c), h) := by
  have e1 : sliceB (.int k (Int.ofNat hi)) c = some hi := by
    unfold sliceB
    simp only
    rw [if_pos ⟨by simp, by simpa using h1⟩]
    rfl
  simp only [evOper, evOp, sliceSlV, hx, hy, Option.map_some, Option.map_none, optB, opt, e1]
  simp
end
end Go.Am
