/- The law of the clock answers true. -/
import Derived.Test.YtiakcbnmagpabaaGreatDoorLClockMain
namespace Go.Am
open Go.Proofs Go.Proofs.YtiakcbnmagpabaaGreatDoor

mutual
theorem pure_ren (π : Nat → Nat) : ∀ v : AV, v.pure = true → v.ren π = v
  | .bool _, _ | .int _ _, _ | .str _, _ | .nilptr, _ | .nilslice, _ | .nilmap, _ | .nilfunc, _ => rfl
  | .agg l, h => congrArg AV.agg (pureL_ren π l h)
  | .tuple l, h => congrArg AV.tuple (pureL_ren π l h)
  | .ptr _ _, h | .slice _ _ _ _, h | .map _, h | .func _ _ _, h => by cases h
theorem pureL_ren (π : Nat → Nat) : ∀ l : List AV, pureL l = true → renL π l = l
  | [], _ => rfl
  | v :: l, h => by
    simp only [pureL, Bool.and_eq_true] at h
    simp only [renL, pure_ren π v h.1, pureL_ren π l h.2]
end

def sInt (n : Nat) : AV := .int .i64 (Int.ofNat n)
/-- a slice that is only read: its length, its first 60 -/
structure SlOk (sl sl' : AV) (N : Nat) : Prop where
  len : ∀ (Y : YH) (H : CallH) (g : RT) (h : AH) (x : Opd), x.ev g = sl → evOper Y H (.len .slice x) g h = some (sInt N, h)
  cut : ∀ (Y : YH) (H : CallH) (g : RT) (h : AH) (x y : Opd), x.ev g = sl → y.ev g = sInt (min N 60) → evOper Y H (.sliceSl 4 false x none (some y) none) g h = some (sl', h)
  len' : ∀ (Y : YH) (H : CallH) (g : RT) (h : AH) (x : Opd), x.ev g = sl' → evOper Y H (.len .slice x) g h = some (sInt (min N 60), h)
  ren : sl.ren (past 38) = sl
  ren' : sl'.ren (past 38) = sl'

theorem sl_fixed (id N c : Nat) (hid : id < 38) (h : N ≤ c) : SlOk (.slice id 0 N (.fixed c)) (.slice id 0 (min N 60) (.fixed c)) N := by
  refine ⟨fun Y H g h x hx => ?_, fun Y H g h x y hx hy => ?_, fun Y H g h x hx => ?_, ?_, ?_⟩
  · simp only [evOper, evOp, hx]; rfl
  · exact sliceTo_of false hx hy (by omega)
  · simp only [evOper, evOp, hx]; rfl
  · show AV.slice (past 38 id) 0 N (.fixed c) = _
    rw [past, if_pos hid]
  · show AV.slice (past 38 id) 0 _ (.fixed c) = _
    rw [past, if_pos hid]
theorem sl_nil : SlOk .nilslice .nilslice 0 := by
  refine ⟨fun Y H g h x hx => ?_, fun Y H g h x y hx hy => ?_, fun Y H g h x hx => ?_, rfl, rfl⟩
  · simp only [evOper, evOp, hx]; rfl
  · simp only [evOper, evOp, sliceSlV, hx, hy, Option.map_some, Option.map_none, optB, opt]; rfl
  · simp only [evOper, evOp, hx]; rfl

def LH0 (cs : List AV) : List (Nat × AO) := tl0 ++ [(33, .row 1 cs .ro)]
def S70 (sl : AV) (cs : List AV) (a l m : Nat) : St := (argRegs [.int .u32 (Int.ofNat a), .int .u32 (Int.ofNat l), .int .u32 (Int.ofNat m), sl] 0 .nil, ⟨34, 32, [], mkT (LH0 cs)⟩)
def LR4 (sl : AV) : List (Nat × AV) := [(3, sl), (9, .ptr 36 0), (10, .func (.func 28) [] [.ptr 34 0, .ptr 35 0]), (11, .ptr 37 0)]
def S74 (sl : AV) (cs : List AV) (l m w : Nat) (js : Nat → AV) : St := (full 7 (ov (LR4 sl) js), ⟨38, 32, [], mkT (LH cs l m w 0 0 false)⟩)

theorem wU (a : Nat) (h : a < 4294967296) : W (Int.ofNat a) = Int.ofNat a := W_nat a (by omega)

/-- as far as the two clocks -/
theorem pre7 (sl : AV) (cs : List AV) (a l m : Nat) (ha : a < 4294967296) (hl : l < 4294967296) (hm : m < 4294967296) : ∃ s1 s2 s3 s4, evCode H8 1000000 false nY c7.body.l (S70 sl cs a l m) = some (.normal, s1) ∧ evCode H8 1000000 false nY c7.body.r.l s1 = some (.normal, s2) ∧
    evCode H8 1000000 false nY c7.body.r.r.l s2 = some (.normal, s3) ∧ evCode H8 1000000 false nY c7.body.r.r.r.l s3 = some (.normal, s4) ∧
    Nat.ble s1.2.next far = true ∧ Nat.ble s2.2.next far = true ∧ Nat.ble s3.2.next far = true ∧ Nat.ble s4.2.next far = true ∧ s4.2.marks = [] ∧ s4.2.floor = 32 ∧ s4.1.geti 3 = sl ∧ s4.1.geti 9 = .ptr 36 0 ∧ s4.1.geti 10 = .func (.func 28) [] [.ptr 34 0, .ptr 35 0] ∧ s4.1.geti 11 = .ptr 37 0 ∧
    (∀ p, p ∈ tl0 → s4.2.get p.1 = some p.2) ∧ s4.2.get 33 = some (.row 1 cs .ro) ∧ s4.2.get 34 = some (.row 1 [.int .u32 (Int.ofNat l)] .closed) ∧ s4.2.get 35 = some (.row 1 [.int .u32 (Int.ofNat m)] .closed) ∧
    s4.2.get 36 = some (.row 1 (cellsC l m (min (max a l) m) 0 0 false) .closed) ∧ s4.2.get 37 = some (.row 1 [.int .u64 (W (Int.ofNat l)), .int .u64 (W (Int.ofNat m)), .int .u64 (mn (mx (W (Int.ofNat a)) (W (Int.ofNat l))) (W (Int.ofNat m))), .int .u64 (Int.ofNat 0), .int .u64 (Int.ofNat 0), .bool false] .closed) := by
  refine ⟨_, _, _, _, kRun .normal (by kernel_rfl), kOps (by kernel_rfl) (rSeg 1 (by kernel_rfl) (rOp (some 16) (.toInt .u64 (.r 15)) (by kernel_rfl) (toInt_of (k' := .u32) (A := Int.ofNat a) (R := Int.ofNat a) (by kernel_rfl) (wU a ha))
    (rSeg 1 (by kernel_rfl) (rOp (some 18) (.toInt .u64 (.r 17)) (by kernel_rfl) (toInt_of (k' := .u32) (A := Int.ofNat l) (R := Int.ofNat l) (by kernel_rfl) (wU l hl))
    (rSeg 1 (by kernel_rfl) (rOp (some 20) (.toInt .u64 (.r 19)) (by kernel_rfl) (toInt_of (k' := .u32) (A := Int.ofNat m) (R := Int.ofNat m) (by kernel_rfl) (wU m hm))
    (rCall (some 21) 27 [.r 16, .r 18, .r 20] [u a, u l, u m] (by kernel_rfl) (by kernel_rfl) (own27 5 _ _ a l m) (rEnd (by kernel_rfl))))))))), kRun .normal (by kernel_rfl), kRun .normal (by kernel_rfl), ?_⟩
  exact ⟨by kernel_rfl, by kernel_rfl, by kernel_rfl, by kernel_rfl, by kernel_rfl, by kernel_rfl, by kernel_rfl, by kernel_rfl, by kernel_rfl, by kernel_rfl, tabs_of (by kernel_rfl), by kernel_rfl, by kernel_rfl, by kernel_rfl, by kernel_rfl, by kernel_rfl⟩

/-- as far as the loop -/
theorem pre7b (sl sl' : AV) (cs : List AV) (l m w N : Nat) (js : Nat → AV) (ho : SlOk sl sl' N) : ∃ s1 s2, evCode H8 1000000 false nY c7.body.r.r.r.r.l (S74 sl cs l m w js) = some (.normal, s1) ∧ evCode H8 1000000 false nY c7.body.r.r.r.r.r.l.l s1 = some (.normal, s2) ∧
    Nat.ble s1.2.next far = true ∧ After sl' cs (min N 60) 0 l m w 0 0 false s2 := by
  have e12 : ∀ Y : YH, H8 Y 12 [] ⟨38, 32, [], mkT (LH cs l m w 0 0 false)⟩ = some (.bool true, ⟨38, 32, [], mkT (LH cs l m w 0 0 false)⟩) := fun Y => by
    exact evP_known (by rfl) fun id o ho => (tabs_of (h := ⟨38, 32, [], mkT (LH cs l m w 0 0 false)⟩) (by kernel_rfl)) (id, o) (mkT_mem ho)
  refine ⟨_, _, kSeq (by kernel_rfl) (kOps (by kernel_rfl) (rCall (some 32) 12 [] [] (by kernel_rfl) (by kernel_rfl) (e12 _) (rEnd (by kernel_rfl))))
    (kCondF (!((Int.ofNat l == Int.ofNat l) && ((Int.ofNat m == Int.ofNat m) && ((Int.ofNat w == Int.ofNat w) && ((Int.ofNat 0 == Int.ofNat 0) && ((Int.ofNat 0 == Int.ofNat 0) && ((false == false) && true))))))) (by kernel_rfl) (by kernel_rfl) (eqC _ _ _ _ _ _) (kRun .normal (by kernel_rfl))),
    kOps (by kernel_rfl) (rSeg 2 (by kernel_rfl) (rOp (some 41) (.len .slice (.r 40)) (by kernel_rfl) (ho.len _ _ _ _ _ (by kernel_rfl))
      (rOp (some 42) (.maxmin false (.r 41) [.c (.int .i64 (.ofNat 60))]) (by kernel_rfl) (min_of (k := .i64) (A := Int.ofNat N) (B := Int.ofNat 60) (R := Int.ofNat (min N 60)) (by kernel_rfl) (by kernel_rfl) (minN N 60))
      (rOp (some 43) (.sliceSl 4 false (.r 39) none (some (.r 42)) none) (by kernel_rfl) (ho.cut _ _ _ _ _ _ (by kernel_rfl) (by kernel_rfl))
      (rOp (some 44) (.len .slice (.r 43)) (by kernel_rfl) (ho.len' _ _ _ _ _ (by kernel_rfl)) (rEnd (by kernel_rfl))))))), ?_⟩
  exact ⟨by kernel_rfl, by kernel_rfl, by kernel_rfl, by kernel_rfl, by kernel_rfl, by kernel_rfl, by kernel_rfl, by kernel_rfl, by kernel_rfl, by kernel_rfl, tabs_of (by kernel_rfl), by kernel_rfl, by kernel_rfl, by kernel_rfl, by kernel_rfl, by kernel_rfl⟩

theorem tl0_ren : ∀ {l : List (Nat × AO)} {π : Nat → Nat}, l.map (fun p => p.2.ren π) = l.map (fun p => p.2) → ∀ p, p ∈ l → p.2.ren π = p.2
  | [], _, _, p, hp => nomatch hp
  | q :: l, π, e, p, hp => by
    simp only [List.map_cons, List.cons.injEq] at e
    cases hp with
    | head => exact e.1
    | tail _ hp => exact tl0_ren e.2 p hp
theorem tl0_lt : ∀ p, p ∈ tl0 → p.1 < 32 := by
  have : tl0.all (fun p => Nat.blt p.1 32) = true := by kernel_rfl
  intro p hp
  exact Nat.le_of_ble_eq_true (List.all_eq_true.1 this p hp)

variable {w0 w : World} {ρ : Env} {a : Act} {s : St}
/-- the loop's head -/
theorem head7 {sl : AV} {cs : List AV} {n i l m wt e o : Nat} {any : Bool} (A : Abs 115 w0 ρ s.1 s.2 a w) (f : After sl cs n i l m wt e o any s) (hsl : sl.ren (past 38) = sl) (hcs : pureL cs = true) :
    ∃ ρ2 js, Abs 115 w0 ρ2 (LS0 sl cs n i l m wt e o any js).1 (LS0 sl cs n i l m wt e o any js).2 a w := by
  refine A.canon 38 7 (by decide) (by decide) (by decide) (LR sl n i) (LH cs l m wt e o any) f.marks f.floor (fun p hp => ?_) fun p hp => ?_
  · simp only [LR, List.mem_cons, List.mem_nil_iff, or_false] at hp
    rcases hp with h | h | h | h | h | h <;> subst h
    · exact ⟨Nat.le_of_ble_eq_true rfl, by rw [f.r9]; rfl⟩
    · exact ⟨Nat.le_of_ble_eq_true rfl, by rw [f.r10]; rfl⟩
    · exact ⟨Nat.le_of_ble_eq_true rfl, by rw [f.r11]; rfl⟩
    · exact ⟨Nat.le_of_ble_eq_true rfl, by rw [f.r43]; exact hsl⟩
    · exact ⟨Nat.le_of_ble_eq_true rfl, by rw [f.r44]; rfl⟩
    · exact ⟨Nat.le_of_ble_eq_true rfl, by rw [f.r45]; rfl⟩
  · rcases List.mem_append.1 hp with h | h
    · exact ⟨Nat.lt_of_lt_of_le (tl0_lt p h) (by decide), p.2, f.tabs p h, tl0_ren (by kernel_rfl) p h⟩
    · simp only [List.mem_cons, List.mem_nil_iff, or_false] at h
      rcases h with h | h | h | h | h <;> subst h
      · exact ⟨Nat.le_of_ble_eq_true rfl, _, f.o33, congrArg (fun x => AO.row 1 x .ro) (pureL_ren _ _ hcs)⟩
      · exact ⟨Nat.le_of_ble_eq_true rfl, _, f.o34, rfl⟩
      · exact ⟨Nat.le_of_ble_eq_true rfl, _, f.o35, rfl⟩
      · exact ⟨Nat.le_of_ble_eq_true rfl, _, f.o36, rfl⟩
      · exact ⟨Nat.le_of_ble_eq_true rfl, _, f.o37, rfl⟩

theorem H8_sound : HSound Tryz.prog H8 := evP_sound mixed ctab_comp awake_known 1000000 8
theorem H8_grow : HGrow H8 := evP_grow _ _ _ _ _ 8

section
variable {Q : AX → Act → World → Prop} {m : Nat}
theorem step7 {s s' : St} {ac : AC} {x : AX} (A : Abs 115 w0 ρ s.1 s.2 a w) (he : evCode H8 1000000 false nY ac s = some (x, s')) (hn : Nat.ble s'.2.next far = true) (hQ : ∀ a' w' ρ', Abs 115 w0 ρ' s'.1 s'.2 a' w' → Q x a' w') : wpA Fence.wide m Tryz.prog 115 ac Q a w :=
  wpA_run mixed H8_sound H8_grow WideF.wide rfl 1000000 A he (Nat.le_of_ble_eq_true hn) hQ
end

def Done (w0 : World) (x : AX) (a' : Act) (w' : World) : Prop := (x = .normal ∨ x = .ret) ∧ ∃ ρ' g' h', Abs 115 w0 ρ' g' h' a' w' ∧ h'.marks = [] ∧ evRVs g' h' c7.results = some [.bool true]

theorem out7 (sl : AV) (cs : List AV) (n i l m wt e o : Nat) (any : Bool) (js : Nat → AV) : ∃ s1, evCode H8 1000000 false nY c7.body.r.r.r.r.r.r (LS0 sl cs n i l m wt e o any js) = some (.ret, s1) ∧ Nat.ble s1.2.next far = true ∧ s1.2.marks = [] ∧ evRVs s1.1 s1.2 c7.results = some [.bool true] :=
  ⟨_, kRun .ret (by kernel_rfl), by kernel_rfl, by kernel_rfl, by kernel_rfl⟩

/-- a round, whatever it is of -/
theorem round7 (sl : AV) (cs : List AV) (n l m : Nat) (hn : n ≤ 60) (hl : l < 4294967296) (hm : m < 4294967296)
    (hrow : ∀ i, i < n → (∃ c, sl = .slice 33 0 n (.fixed c)) ∧ ∃ wh A B N, (cs.drop (i * 4)).take 4 = [.int .u8 (Int.ofNat wh), .int .u8 (Int.ofNat A), .int .u8 (Int.ofNat B), .int .u16 (Int.ofNat N)] ∧ N < 65536)
    (i wt e o : Nat) (any : Bool) (js : Nat → AV) (hi : i < n) (hw : wt < 4294967296) (he : e < 1099511627776) (hoo : o < 1099511627776) :
    ∃ wt' e' o' any' s1, evCode H8 1000000 false nY XB (LS0 sl cs n i l m wt e o any js) = some (.normal, s1) ∧ After sl cs n (i + 1) l m wt' e' o' any' s1 ∧ wt' < 4294967296 ∧ e' < 1099511627776 ∧ o' < 1099511627776 := by
  obtain ⟨⟨c, hs⟩, wh, A, B, N, hc, hN⟩ := hrow i hi
  subst hs
  have hx : N * 2 ^ (A % 24) < 1099511627776 := shift_small hN
  by_cases h3 : wh % 3 = 0
  · obtain ⟨s1, h1, h2⟩ := round_late cs n c i l m wt e o wh A B N any js hi hn hc hl hm hw h3
    exact ⟨_, _, _, _, s1, h1, h2, by omega, he, hoo⟩
  · cases any with
    | true =>
      obtain ⟨s1, h1, h2⟩ := round_came_t cs n c i l m wt e o wh A B N js hi hn hc hl hm he hoo hN h3
      refine ⟨_, _, _, _, s1, h1, h2, ?_, ?_, ?_⟩
      · generalize N * 2 ^ (A % 24) = x at *
        exact Nat.lt_of_le_of_lt (Nat.min_le_right _ _) hm
      · generalize N * 2 ^ (A % 24) = x at *
        omega
      · generalize N * 2 ^ (A % 24) = x at *
        omega
    | false =>
      obtain ⟨s1, h1, h2⟩ := round_came_f cs n c i l m wt e o wh A B N js hi hn hc hl hm he hoo hN h3
      refine ⟨_, _, _, _, s1, h1, h2, ?_, ?_, ?_⟩
      · exact Nat.lt_of_le_of_lt (Nat.min_le_right _ _) hm
      · exact hx
      · generalize N * 2 ^ (A % 24) = x at *
        omega

theorem walk7 (sl sl' : AV) (cs : List AV) (x l m N : Nat) (hx : x < 4294967296) (hl : l < 4294967296) (hm : m < 4294967296) (ho : SlOk sl sl' N) (hcs : pureL cs = true)
    (hrow : ∀ i, i < min N 60 → (∃ c, sl' = .slice 33 0 (min N 60) (.fixed c)) ∧ ∃ wh A B N, (cs.drop (i * 4)).take 4 = [.int .u8 (Int.ofNat wh), .int .u8 (Int.ofNat A), .int .u8 (Int.ofNat B), .int .u16 (Int.ofNat N)] ∧ N < 65536)
    (A : Abs 115 w0 ρ (S70 sl cs x l m).1 (S70 sl cs x l m).2 a w) : wpA Fence.wide 0 Tryz.prog 115 c7.body (Done w0) a w := by
  obtain ⟨s1, s2, s3, s4, e1, e2, e3, e4, n1, n2, n3, n4, f1, f2, f3, f4, f5, f6, f7, f8, f9, f10, f11, f12⟩ := pre7 sl cs x l m hx hl hm
  refine wSeq (by kernel_rfl) (step7 A e1 n1 fun a w ρ A => ?_)
  refine wSeq (by kernel_rfl) (step7 A e2 n2 fun a w ρ A => ?_)
  refine wSeq (by kernel_rfl) (step7 A e3 n3 fun a w ρ A => ?_)
  refine wSeq (by kernel_rfl) (step7 A e4 n4 fun a w ρ A => ?_)
  obtain ⟨ρ2, js, A⟩ : ∃ ρ2 js, Abs 115 w0 ρ2 (S74 sl cs l m (min (max x l) m) js).1 (S74 sl cs l m (min (max x l) m) js).2 a w := by
    refine A.canon 38 7 (by decide) (by decide) (by decide) (LR4 sl) (LH cs l m (min (max x l) m) 0 0 false) f1 f2 (fun p hp => ?_) fun p hp => ?_
    · simp only [LR4, List.mem_cons, List.mem_nil_iff, or_false] at hp
      rcases hp with h | h | h | h <;> subst h
      · exact ⟨Nat.le_of_ble_eq_true rfl, by rw [f3]; exact ho.ren⟩
      · exact ⟨Nat.le_of_ble_eq_true rfl, by rw [f4]; rfl⟩
      · exact ⟨Nat.le_of_ble_eq_true rfl, by rw [f5]; rfl⟩
      · exact ⟨Nat.le_of_ble_eq_true rfl, by rw [f6]; rfl⟩
    · rcases List.mem_append.1 hp with h | h
      · exact ⟨Nat.lt_of_lt_of_le (tl0_lt p h) (by decide), p.2, f7 p h, tl0_ren (by kernel_rfl) p h⟩
      · simp only [List.mem_cons, List.mem_nil_iff, or_false] at h
        rcases h with h | h | h | h | h <;> subst h
        · exact ⟨Nat.le_of_ble_eq_true rfl, _, f8, congrArg (fun x => AO.row 1 x .ro) (pureL_ren _ _ hcs)⟩
        · exact ⟨Nat.le_of_ble_eq_true rfl, _, f9, rfl⟩
        · exact ⟨Nat.le_of_ble_eq_true rfl, _, f10, rfl⟩
        · exact ⟨Nat.le_of_ble_eq_true rfl, _, f11, rfl⟩
        · refine ⟨Nat.le_of_ble_eq_true rfl, _, f12, ?_⟩
          rw [wU x hx, wU l hl, wU m hm, mnmx]
          rfl
  obtain ⟨s5, s6, e5, e6, n5, F⟩ := pre7b sl sl' cs l m (min (max x l) m) N js ho
  refine wSeq (by kernel_rfl) (step7 A e5 n5 fun a w ρ A => ?_)
  refine wSeq (by kernel_rfl) (wSeq (by kernel_rfl) (step7 A e6 F.next fun a w ρ A => ?_))
  obtain ⟨ρ, js, A⟩ := head7 A F ho.ren' hcs
  refine wBlock 0 (by kernel_rfl) (wLoop (by kernel_rfl) (fun k a w => ∃ i wt e o any ρ js, Abs 115 w0 ρ (LS0 sl' cs (min N 60) i l m wt e o any js).1 (LS0 sl' cs (min N 60) i l m wt e o any js).2 a w ∧ i ≤ min N 60 ∧ k = min N 60 - i ∧ wt < 4294967296 ∧ e < 1099511627776 ∧ o < 1099511627776)
    ⟨0, _, 0, 0, false, ρ, js, A, Nat.zero_le _, rfl, by omega, by decide, by decide⟩ ?_)
  rintro k a w ⟨i, wt, e, o, any, ρ, js, A, hi, hk, h1, h2, h3⟩
  rcases Nat.lt_or_eq_of_le hi with hlt | heq
  · obtain ⟨wt', e', o', any', s1, g1, g2, g3, g4, g5⟩ := round7 sl' cs (min N 60) l m (Nat.min_le_right _ _) hl hm hrow i wt e o any js hlt h1 h2 h3
    refine step7 A g1 g2.next fun a w ρ A => ?_
    obtain ⟨ρ, js, A⟩ := head7 A g2 ho.ren' hcs
    exact ⟨min N 60 - (i + 1), by omega, i + 1, wt', e', o', any', ρ, js, A, hlt, rfl, g3, g4, g5⟩
  · subst heq
    obtain ⟨s1, g1, g2⟩ := round_end sl' cs (min N 60) l m wt e o any js
    refine step7 A g1 g2.next fun a w ρ A => ?_
    obtain ⟨ρ, js, A⟩ := head7 A g2 ho.ren' hcs
    obtain ⟨s2, q1, q2, q3, q4⟩ := out7 sl' cs (min N 60) (min N 60) l m wt e o any js
    simp only [if_true]
    exact step7 A q1 q2 fun a w ρ A => ⟨.inr rfl, ρ, _, _, A, q3, q4⟩
end Go.Am
