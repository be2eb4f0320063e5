import Derived.Test.YtofkamnmgpkehabDet
import Derived.Test.YtofkamnmgpkehabTgts
import Derived.Test.YtofkamnmgpkehabSearch
import Derived.Test.YtofkamnmgpkehabAllP
import Derived.Test.YtofkamnmgpkehabWithin
/- The walk of ProcsKnown. -/
namespace Go.Proofs.Ytofkamnmgpkehab
open Go.RowKit
def kA (a : Nat) (i : Nat × Nat) : List (Nat × Nat) := [(3, 8), (6, a), i, (3, 4), (8, 4), (7, 0), (8, 1), (4, 4)]
theorem kA_lt (a : Nat) (i : Nat × Nat) (ha : a < 4294967296) (h1 : i.1 < 256) (h2 : i.2 < 4294967296) : ∀ x ∈ kA a i, x.1 < 256 ∧ x.2 < 4294967296 := by
  intro x hx
  simp only [kA, List.mem_cons, List.not_mem_nil, or_false] at hx
  rcases hx with rfl | rfl | rfl | rfl | rfl | rfl | rfl | rfl <;> first | exact ⟨h1, h2⟩ | exact ⟨(by show (6 : Nat) < 256; decide), ha⟩ | decide
theorem k1 : FindBad (kA 2 (4, 8)) [3] [] 0 134 := .jump (by decide +kernel) (by unfold Firsts; decide +kernel) (by decide +kernel) 0 (by decide) (fun _ h => absurd h (Nat.not_lt_zero _)) (by decide +kernel)
theorem k2 : FindBad (kA 2 (4, 8)) [6, 4] [] 1 134 := .jump (by decide +kernel) (by unfold Firsts; decide +kernel) (by decide +kernel) 1 (by decide) (by unfold GoodTo; decide +kernel) (by decide +kernel)
theorem k3 : FindBad (kA 2 (4, 8)) [] [4] 0 135 := .name (by decide +kernel) (by unfold Firsts; decide +kernel) (by decide +kernel) (by unfold GoodTo; decide +kernel) 0 (by decide) (fun _ h => absurd h (Nat.not_lt_zero _)) (by decide +kernel)
theorem k4 : FindBad (kA 4 (4, 8)) [] [] 1 132 := by
  have h : faultAt (kA 4 (4, 8)) 1 = 132 := by decide +kernel
  have := FindBad.fault (code := kA 4 (4, 8)) (js := []) (ats := []) (by decide +kernel) (by unfold Firsts; decide +kernel) 1 (by decide) (by decide +kernel) (by rw [h]; decide)
  rwa [h] at this
theorem k5 : FindBad (kA 0 (4, 8)) [] [] 1 132 := by
  have h : faultAt (kA 0 (4, 8)) 1 = 132 := by decide +kernel
  have := FindBad.fault (code := kA 0 (4, 8)) (js := []) (ats := []) (by decide +kernel) (by unfold Firsts; decide +kernel) 1 (by decide) (by decide +kernel) (by rw [h]; decide)
  rwa [h] at this
theorem k6 : FindBad (kA 2 (8, 1)) [] [] 2 133 := by
  have h : faultAt (kA 2 (8, 1)) 2 = 133 := by decide +kernel
  have := FindBad.fault (code := kA 2 (8, 1)) (js := []) (ats := []) (by decide +kernel) (by unfold Firsts; decide +kernel) 2 (by decide) (by decide +kernel) (by rw [h]; decide)
  rwa [h] at this
theorem k7 : FindBad (kA 2 (4, 4)) [] [] 2 131 := by
  have h : faultAt (kA 2 (4, 4)) 2 = 131 := by decide +kernel
  have := FindBad.fault (code := kA 2 (4, 4)) (js := []) (ats := []) (by decide +kernel) (by unfold Firsts; decide +kernel) 2 (by decide) (by decide +kernel) (by rw [h]; decide)
  rwa [h] at this
theorem k8 : FindBad [] [] [] 0 130 := .first (by decide +kernel) (by unfold Firsts; decide)
theorem run_bs23_1 (x : Int) (w : World) : (Instr.buildSlice 23 1 #[(0, .int .u32 x)]).run Try.prog w = .ok (.slice (some ⟨w.heap.size, 0, none⟩) 1 1) (w.alloc (.cells #[.int .u32 x] 32)) := by kernel_rfl
theorem run_b39_3 (x y z : Int) (w : World) : (Instr.build 39 #[(0, .int .u32 x), (1, .int .u32 y), (2, .int .u32 z)]).run Try.prog w = .ok (.agg #[.int .u32 x, .int .u32 y, .int .u32 z, .int .i64 0]) w := by kernel_rfl
theorem neq39 (w : World) : (binOp .neq 39 (.agg #[.int .u32 3, .int .u32 8, .int .u32 4, .int .i64 0]) (.agg #[.int .u32 3, .int .u32 8, .int .u32 4, .int .i64 0])).run Try.prog w = .ok (.bool false) w := by kernel_rfl
def KOwn (W : World) (g a : Nat) (i : Nat × Nat) : Prop := W.ownsRow 0 49 2 (.slice (some ⟨g, 0, none⟩) 8 8) 8 (encI (kA a i))
theorem KOwn.in_ {W : World} {g a : Nat} {i : Nat × Nat} (h : KOwn W g a i) (ha : a < 4294967296) (h1 : i.1 < 256) (h2 : i.2 < 4294967296) : Instrs W (.slice (some ⟨g, 0, none⟩) 8 8) (kA a i) := ⟨Reads.own h (by decide), kA_lt a i ha h1 h2⟩
theorem kf1 {W : World} {g : Nat} (h : KOwn W g 2 (4, 8)) : Calls Try.prog 15 #[.slice (some ⟨g, 0, none⟩) 8 8, .slice (some ⟨W.heap.size, 0, none⟩) 1 1, .slice none 0 0] (W.alloc (.cells #[.int .u32 3] 32)) fun e w' => e = .returned (.tuple #[.pointer none, .int .i64 0, .int .i64 134]) ∧ Below W.heap.size W w' :=
  (find_refuses _ _ _ _ _ _ k1 ((h.in_ (by decide) (by decide) (by decide)).below (Bel.new W _)) (by rw [World.size_alloc]; exact rowU_new W [3] 1 #[.int .u32 3] rfl rfl (by decide) (fun k => by match k with | 0 => decide | k + 1 => simp)) (namesU_nil _ _)).mono fun e w' h => ⟨h.1, Bel.of h.2⟩
theorem kf2 {W : World} {g : Nat} (h : KOwn W g 2 (4, 8)) : Calls Try.prog 15 #[.slice (some ⟨g, 0, none⟩) 8 8, .slice (some ⟨W.heap.size, 0, none⟩) 2 2, .slice none 0 0] (W.alloc (.cells #[.int .u32 6, .int .u32 4] 32)) fun e w' => e = .returned (.tuple #[.pointer none, .int .i64 1, .int .i64 134]) ∧ Below W.heap.size W w' :=
  (find_refuses _ _ _ _ _ _ k2 ((h.in_ (by decide) (by decide) (by decide)).below (Bel.new W _)) (by rw [World.size_alloc]; exact rowU_new W [6, 4] 2 #[.int .u32 6, .int .u32 4] rfl rfl (by decide) (fun k => by match k with | 0 => decide | 1 => decide | k + 2 => simp)) (namesU_nil _ _)).mono fun e w' h => ⟨h.1, Bel.of h.2⟩
theorem kf3 {W : World} {g : Nat} (h : KOwn W g 2 (4, 8)) : Calls Try.prog 15 #[.slice (some ⟨g, 0, none⟩) 8 8, .slice none 0 0, .slice (some ⟨W.heap.size, 0, none⟩) 1 1] (W.alloc (.cells #[.string ⟨#[102]⟩, .int .u32 4] 54)) fun e w' => e = .returned (.tuple #[.pointer none, .int .i64 0, .int .i64 135]) ∧ Below W.heap.size W w' := by
  have r3 : NamesU (W.alloc (.cells #[.string ⟨#[102]⟩, .int .u32 4] 54)) (W.alloc (.cells #[.string ⟨#[102]⟩, .int .u32 4] 54)).heap.size (.slice (some ⟨W.heap.size, 0, none⟩) 1 1) [4] := by
    refine ⟨_, _, rfl, Nat.le_refl _, by decide, (fun k => by match k with | 0 => decide | k + 1 => simp), fun _ => ⟨_, _, rfl, by simp, fun k hk => ?_⟩⟩
    have hk0 : k = 0 := by simp at hk; omega
    subst hk0
    have := cells_new2 W (.string ⟨#[102]⟩) (.int .u32 4) 54
    exact ⟨_, this.1, this.2⟩
  exact (find_refuses _ _ _ _ _ _ k3 ((h.in_ (by decide) (by decide) (by decide)).below (Bel.new W _)) (rowU_nil _ _) r3).mono fun e w' h => ⟨h.1, Bel.of h.2⟩
theorem kf4 {W : World} {g : Nat} (h : KOwn W g 4 (4, 8)) : Calls Try.prog 15 #[.slice (some ⟨g, 0, none⟩) 8 8, .slice none 0 0, .slice none 0 0] W fun e w' => e = .returned (.tuple #[.pointer none, .int .i64 1, .int .i64 132]) ∧ Below W.heap.size W w' :=
  find_refuses _ _ _ _ _ _ k4 (h.in_ (by decide) (by decide) (by decide)) (rowU_nil _ _) (namesU_nil _ _)
theorem kf5 {W : World} {g : Nat} (h : KOwn W g 0 (4, 8)) : Calls Try.prog 15 #[.slice (some ⟨g, 0, none⟩) 8 8, .slice none 0 0, .slice none 0 0] W fun e w' => e = .returned (.tuple #[.pointer none, .int .i64 1, .int .i64 132]) ∧ Below W.heap.size W w' :=
  find_refuses _ _ _ _ _ _ k5 (h.in_ (by decide) (by decide) (by decide)) (rowU_nil _ _) (namesU_nil _ _)
theorem kf6 {W : World} {g : Nat} (h : KOwn W g 2 (8, 1)) : Calls Try.prog 15 #[.slice (some ⟨g, 0, none⟩) 8 8, .slice none 0 0, .slice none 0 0] W fun e w' => e = .returned (.tuple #[.pointer none, .int .i64 2, .int .i64 133]) ∧ Below W.heap.size W w' :=
  find_refuses _ _ _ _ _ _ k6 (h.in_ (by decide) (by decide) (by decide)) (rowU_nil _ _) (namesU_nil _ _)
theorem kf7 {W : World} {g : Nat} (h : KOwn W g 2 (4, 4)) : Calls Try.prog 15 #[.slice (some ⟨g, 0, none⟩) 8 8, .slice none 0 0, .slice none 0 0] W fun e w' => e = .returned (.tuple #[.pointer none, .int .i64 2, .int .i64 131]) ∧ Below W.heap.size W w' :=
  find_refuses _ _ _ _ _ _ k7 (h.in_ (by decide) (by decide) (by decide)) (rowU_nil _ _) (namesU_nil _ _)
theorem kf8 (W : World) : Calls Try.prog 15 #[.slice none 0 0, .slice none 0 0, .slice none 0 0] W fun e w' => e = .returned (.tuple #[.pointer none, .int .i64 0, .int .i64 130]) ∧ Below W.heap.size W w' :=
  find_refuses _ _ _ _ _ _ k8 ⟨Reads.nil W 2, fun i hi => by cases hi⟩ (rowU_nil _ _) (namesU_nil _ _)
/-- What is told of the examples' procedures. -/
structure KP (W : World) (b : Nat) : Prop where
  one : Calls Try.prog 9 #[.pointer (some ⟨b, 0, none⟩), .int .i64 1] W fun e w' => e = .returned (.tuple #[.agg #[.int .u32 3, .int .u32 8, .int .u32 4, .int .i64 0], .bool true]) ∧ Below W.heap.size W w'
  cnt : Calls Try.prog 10 #[.pointer (some ⟨b, 0, none⟩)] W fun e w' => e = .returned (.int .i64 2) ∧ Below W.heap.size W w'
  of2 : Calls Try.prog 11 #[.pointer (some ⟨b, 0, none⟩), .int .u32 2] W fun e w' => e = .returned (.int .i64 0) ∧ Below W.heap.size W w'
  of8 : Calls Try.prog 11 #[.pointer (some ⟨b, 0, none⟩), .int .u32 8] W fun e w' => e = .returned (.int .i64 (-1)) ∧ Below W.heap.size W w'
  bg3 : Calls Try.prog 12 #[.pointer (some ⟨b, 0, none⟩), .int .u32 3] W fun e w' => e = .returned (.bool true) ∧ Below W.heap.size W w'
  l56 : Calls Try.prog 13 #[.pointer (some ⟨b, 0, none⟩), .int .u32 5, .int .u32 6] W fun e w' => e = .returned (.bool true) ∧ Below W.heap.size W w'
  l16 : Calls Try.prog 13 #[.pointer (some ⟨b, 0, none⟩), .int .u32 1, .int .u32 6] W fun e w' => e = .returned (.bool false) ∧ Below W.heap.size W w'
  l55 : Calls Try.prog 13 #[.pointer (some ⟨b, 0, none⟩), .int .u32 5, .int .u32 5] W fun e w' => e = .returned (.bool false) ∧ Below W.heap.size W w'
  t1 : Calls Try.prog 14 #[.pointer (some ⟨b, 0, none⟩), .int .i64 1] W fun e w' => (∃ a c, e = .returned (.slice a 2 c)) ∧ Below W.heap.size W w'
  t0 : Calls Try.prog 14 #[.pointer (some ⟨b, 0, none⟩), .int .i64 0] W fun e w' => (∃ a c, e = .returned (.slice a 0 c)) ∧ Below W.heap.size W w'
theorem ps_small : psTo smallCode smallCode.length = [(0, 3, 8), (3, 8, 4)] := by decide +kernel
theorem of_small : ofTo smallCode smallCode.length = [0, 0, 0, 1, 1, 1, 1, 1] := by decide +kernel
theorem ts_small : aimTo [0, 0, 0, 1, 1, 1, 1, 1] [4, 6] 2 2 = [[], [4, 6]] := by decide +kernel
theorem KP.of {W : World} {B b : Nat} (h : Found smallCode [4, 6] W B b) : KP W b := by
  obtain ⟨vp, vo, vt, us, tag, hA⟩ := h
  have hA2 := hA.at_
  rw [ps_small, of_small] at hA2
  have hA3 : PAt W B b vp vo vt [(0, 3, 8), (3, 8, 4)] [0, 0, 0, 1, 1, 1, 1, 1] us [[], [4, 6]] := by rw [← ts_small]; exact hA2
  have hof : ∀ x, x < [0, 0, 0, 1, 1, 1, 1, 1].length → [0, 0, 0, 1, 1, 1, 1, 1].getD x 0 < 2 := by decide
  have hso : ∀ j, ([[], [4, 6]].getD j []).Pairwise (· < ·) := fun j => by
    match j with
    | 0 => exact List.Pairwise.nil
    | 1 => decide
    | j + 2 => exact List.Pairwise.nil
  have hln : ∀ j, ([[], [4, 6]].getD j []).length ≤ 16384 := fun j => by
    match j with
    | 0 => decide
    | 1 => decide
    | j + 2 => exact Nat.zero_le _
  have same : ∀ {w w' : World}, w = w' → Below w.heap.size w w' := fun e => by rw [e]; exact Below.refl _ _
  have tg : ∀ (i : Int) (m : Nat), (tgtsAt 2 [[], [4, 6]] i).length = m → Calls Try.prog 14 #[.pointer (some ⟨b, 0, none⟩), .int .i64 i] W fun e w' => (∃ a c, e = .returned (.slice a m c)) ∧ Below W.heap.size W w' := fun i m hm => (targets_any hA3 rfl hln i).mono fun e w' ⟨v, he, ho, hb⟩ => by
    change w'.ownsRow W.heap.size 32 1 v (tgtsAt 2 [[], [4, 6]] i).length _ at ho
    rw [hm] at ho
    obtain ⟨a, c, e2, _⟩ := own_sl ho
    exact ⟨⟨a, c, by rw [he, e2]⟩, hb⟩
  exact ⟨proc_any hA3 1, count_any hA3, (of_any hA3 2 (by decide)).mono fun e w' h => ⟨h.1, same h.2⟩, (of_any hA3 8 (by decide)).mono fun e w' h => ⟨h.1, same h.2⟩, begins_any hA3 hof 3 (by decide),
    (legal_any hA3 hof hso hln 5 6 (by decide)).mono fun e w' h => ⟨h.1, same h.2.symm⟩, (legal_any hA3 hof hso hln 1 6 (by decide)).mono fun e w' h => ⟨h.1, same h.2.symm⟩, (legal_any hA3 hof hso hln 5 5 (by decide)).mono fun e w' h => ⟨h.1, same h.2.symm⟩,
    tg 1 2 (by decide), tg 0 0 (by decide)⟩
end Go.Proofs.Ytofkamnmgpkehab
