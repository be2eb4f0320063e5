import Derived.Test.YtofkamnmgpkehabFind
/- playpenlaw13.small. -/
namespace Go.Proofs.Ytofkamnmgpkehab
open Go.RowKit
def smallCode : List (Nat × Nat) := [(3, 8), (8, 0), (4, 8), (3, 4), (8, 4), (7, 0), (8, 1), (4, 4)]
theorem FindOk.not_bad {code : List (Nat × Nat)} {js ats : List Nat} (h : FindOk code js ats) {i c : Nat} : ¬ FindBad code js ats i c := by
  intro hb
  cases hb with
  | enc h' => exact h' h.he
  | first _ h' => exact h' h.h3
  | fault _ _ _ hi _ hf => exact hf (h.hall _ hi)
  | jump _ _ _ _ hi _ hb => have := h.hg _ hi; rw [hb] at this; cases this
  | name _ _ _ _ _ hi _ hb => have := h.hn _ hi; rw [hb] at this; cases this
theorem small_ok : FindOk smallCode [4, 6] [3] :=
  ⟨by decide +kernel, by unfold Firsts; decide +kernel, by decide +kernel, by unfold GoodTo; decide +kernel, by decide +kernel⟩
theorem reads_new (w : World) (sz n : Nat) (cs : Array Value) (t : TypeId) (h : cs.size = n * sz) (hn : n ≤ maxLen) : Reads (w.alloc (.cells cs t)) sz (.slice (some ⟨w.heap.size, 0, none⟩) n n) n cs.toList := by
  refine ⟨_, _, rfl, by simpa using h, Nat.le_refl _, hn, (fun h => by cases h), fun _ => ⟨w.heap.size, 0, rfl, by simp, fun j hj => ?_⟩⟩
  have := news_new w cs t j _ (List.getElem?_eq_getElem hj)
  rw [List.getElem?_eq_getElem hj]
  exact (by rw [Nat.zero_add] : (w.alloc (.cells cs t)).cell? ⟨w.heap.size, 0 + j, none⟩ = (w.alloc (.cells cs t)).cell? ⟨w.heap.size, j, none⟩).trans (by rw [← this]; congr 1; simp [Addr.add])
theorem run_b40 (x y : Int) (w : World) : (Instr.build 49 #[(0, .int .u8 x), (1, .int .u32 y)]).run Try.prog w = .ok (.agg #[.int .u8 x, .int .u32 y]) w := by kernel_rfl
theorem run_b40_1 (x : Int) (w : World) : (Instr.build 49 #[(0, .int .u8 x)]).run Try.prog w = .ok (.agg #[.int .u8 x, .int .u32 0]) w := by kernel_rfl
theorem run_b52 (s : ByteArray) (x : Int) (w : World) : (Instr.build 54 #[(0, .string s), (1, .int .u32 x)]).run Try.prog w = .ok (.agg #[.string s, .int .u32 x]) w := by kernel_rfl
theorem run_bs22 (a b c d e f g h a' b' c' d' e' f' g' h' : Int) (w : World) : (Instr.buildSlice 22 8 #[(0, .agg #[.int .u8 a, .int .u32 a']), (1, .agg #[.int .u8 b, .int .u32 b']), (2, .agg #[.int .u8 c, .int .u32 c']), (3, .agg #[.int .u8 d, .int .u32 d']), (4, .agg #[.int .u8 e, .int .u32 e']), (5, .agg #[.int .u8 f, .int .u32 f']), (6, .agg #[.int .u8 g, .int .u32 g']), (7, .agg #[.int .u8 h, .int .u32 h'])]).run Try.prog w =
    .ok (.slice (some ⟨w.heap.size, 0, none⟩) 8 8) (w.alloc (.cells #[.int .u8 a, .int .u32 a', .int .u8 b, .int .u32 b', .int .u8 c, .int .u32 c', .int .u8 d, .int .u32 d', .int .u8 e, .int .u32 e', .int .u8 f, .int .u32 f', .int .u8 g, .int .u32 g', .int .u8 h, .int .u32 h'] 49)) := by kernel_rfl
theorem run_bs23 (x y : Int) (w : World) : (Instr.buildSlice 23 2 #[(0, .int .u32 x), (1, .int .u32 y)]).run Try.prog w = .ok (.slice (some ⟨w.heap.size, 0, none⟩) 2 2) (w.alloc (.cells #[.int .u32 x, .int .u32 y] 32)) := by kernel_rfl
theorem run_bs24 (s : ByteArray) (x : Int) (w : World) : (Instr.buildSlice 24 1 #[(0, .agg #[.string s, .int .u32 x])]).run Try.prog w = .ok (.slice (some ⟨w.heap.size, 0, none⟩) 1 1) (w.alloc (.cells #[.string s, .int .u32 x] 54)) := by kernel_rfl
def SmallPost (w : World) (e : Ending) (w' : World) : Prop := ∃ b B, e = .returned (.pointer (some ⟨b, 0, none⟩)) ∧ Below w.heap.size w w' ∧ w.heap.size ≤ B ∧ B ≤ w'.heap.size ∧ Found smallCode [4, 6] w' B b
theorem rowU_new (w : World) (l : List Nat) (n : Nat) (cs : Array Value) (hn : l.length = n) (hc : cs.toList = encN .u32 l) (h1 : n ≤ maxLen) (h2 : ∀ k, l.getD k 0 < 4294967296) : RowU (w.alloc (.cells cs 32)) (w.heap.size + 1) (.slice (some ⟨w.heap.size, 0, none⟩) n n) l := by
  subst hn
  refine ⟨_, _, rfl, Nat.le_refl _, h1, h2, fun _ => ⟨w.heap.size, 0, rfl, Nat.lt_succ_self _, fun k hk => ?_⟩⟩
  have hk2 : cs.toList[k]? = some (.int .u32 (l.getD k 0)) := by rw [hc]; exact encN_at _ _ _ hk
  have := news_new w cs 32 k _ hk2
  rw [Nat.zero_add]
  exact (by rw [← this]; congr 1; simp [Addr.add])
theorem small_find (w : World) : Calls Try.prog 15 #[.slice (some ⟨w.heap.size, 0, none⟩) 8 8, .slice (some ⟨w.heap.size + 1, 0, none⟩) 2 2, .slice (some ⟨w.heap.size + 1 + 1, 0, none⟩) 1 1] (((w.alloc (.cells #[.int .u8 3, .int .u32 8, .int .u8 8, .int .u32 0, .int .u8 4, .int .u32 8, .int .u8 3, .int .u32 4, .int .u8 8, .int .u32 4, .int .u8 7, .int .u32 0, .int .u8 8, .int .u32 1, .int .u8 4, .int .u32 4] 49)).alloc (.cells #[.int .u32 4, .int .u32 6] 32)).alloc (.cells #[.string ⟨#[102]⟩, .int .u32 3] 54))
    fun e w' => ∃ b B, e = .returned (.tuple #[.pointer (some ⟨b, 0, none⟩), .int .i64 0, .int .i64 0]) ∧ Below w.heap.size w w' ∧ w.heap.size ≤ B ∧ B ≤ w'.heap.size ∧ Found smallCode [4, 6] w' B b := by
  have n1 := Bel.new w (.cells #[.int .u8 3, .int .u32 8, .int .u8 8, .int .u32 0, .int .u8 4, .int .u32 8, .int .u8 3, .int .u32 4, .int .u8 8, .int .u32 4, .int .u8 7, .int .u32 0, .int .u8 8, .int .u32 1, .int .u8 4, .int .u32 4] 49)
  have n2 := Bel.new (w.alloc (.cells #[.int .u8 3, .int .u32 8, .int .u8 8, .int .u32 0, .int .u8 4, .int .u32 8, .int .u8 3, .int .u32 4, .int .u8 8, .int .u32 4, .int .u8 7, .int .u32 0, .int .u8 8, .int .u32 1, .int .u8 4, .int .u32 4] 49)) (.cells #[.int .u32 4, .int .u32 6] 32)
  have n3 := Bel.new ((w.alloc (.cells #[.int .u8 3, .int .u32 8, .int .u8 8, .int .u32 0, .int .u8 4, .int .u32 8, .int .u8 3, .int .u32 4, .int .u8 8, .int .u32 4, .int .u8 7, .int .u32 0, .int .u8 8, .int .u32 1, .int .u8 4, .int .u32 4] 49)).alloc (.cells #[.int .u32 4, .int .u32 6] 32)) (.cells #[.string ⟨#[102]⟩, .int .u32 3] 54)
  have s1 : (w.alloc (.cells #[.int .u8 3, .int .u32 8, .int .u8 8, .int .u32 0, .int .u8 4, .int .u32 8, .int .u8 3, .int .u32 4, .int .u8 8, .int .u32 4, .int .u8 7, .int .u32 0, .int .u8 8, .int .u32 1, .int .u8 4, .int .u32 4] 49)).heap.size = w.heap.size + 1 := by simp
  have s2 : ((w.alloc (.cells #[.int .u8 3, .int .u32 8, .int .u8 8, .int .u32 0, .int .u8 4, .int .u32 8, .int .u8 3, .int .u32 4, .int .u8 8, .int .u32 4, .int .u8 7, .int .u32 0, .int .u8 8, .int .u32 1, .int .u8 4, .int .u32 4] 49)).alloc (.cells #[.int .u32 4, .int .u32 6] 32)).heap.size = w.heap.size + 1 + 1 := by simp
  have s3 : (((w.alloc (.cells #[.int .u8 3, .int .u32 8, .int .u8 8, .int .u32 0, .int .u8 4, .int .u32 8, .int .u8 3, .int .u32 4, .int .u8 8, .int .u32 4, .int .u8 7, .int .u32 0, .int .u8 8, .int .u32 1, .int .u8 4, .int .u32 4] 49)).alloc (.cells #[.int .u32 4, .int .u32 6] 32)).alloc (.cells #[.string ⟨#[102]⟩, .int .u32 3] 54)).heap.size = w.heap.size + 1 + 1 + 1 := by simp
  have r1 : Instrs (w.alloc (.cells #[.int .u8 3, .int .u32 8, .int .u8 8, .int .u32 0, .int .u8 4, .int .u32 8, .int .u8 3, .int .u32 4, .int .u8 8, .int .u32 4, .int .u8 7, .int .u32 0, .int .u8 8, .int .u32 1, .int .u8 4, .int .u32 4] 49)) (.slice (some ⟨w.heap.size, 0, none⟩) 8 8) smallCode := ⟨reads_new w 2 8 _ 49 rfl (by decide), by decide⟩
  have r2 : RowU ((w.alloc (.cells #[.int .u8 3, .int .u32 8, .int .u8 8, .int .u32 0, .int .u8 4, .int .u32 8, .int .u8 3, .int .u32 4, .int .u8 8, .int .u32 4, .int .u8 7, .int .u32 0, .int .u8 8, .int .u32 1, .int .u8 4, .int .u32 4] 49)).alloc (.cells #[.int .u32 4, .int .u32 6] 32)) (w.heap.size + 1 + 1) (.slice (some ⟨w.heap.size + 1, 0, none⟩) 2 2) [4, 6] := by
    have := rowU_new (w.alloc (.cells #[.int .u8 3, .int .u32 8, .int .u8 8, .int .u32 0, .int .u8 4, .int .u32 8, .int .u8 3, .int .u32 4, .int .u8 8, .int .u32 4, .int .u8 7, .int .u32 0, .int .u8 8, .int .u32 1, .int .u8 4, .int .u32 4] 49)) [4, 6] 2 #[.int .u32 4, .int .u32 6] rfl rfl (by decide) (fun k => by match k with | 0 => decide | 1 => decide | k + 2 => simp)
    rwa [s1] at this
  have r3 : NamesU (((w.alloc (.cells #[.int .u8 3, .int .u32 8, .int .u8 8, .int .u32 0, .int .u8 4, .int .u32 8, .int .u8 3, .int .u32 4, .int .u8 8, .int .u32 4, .int .u8 7, .int .u32 0, .int .u8 8, .int .u32 1, .int .u8 4, .int .u32 4] 49)).alloc (.cells #[.int .u32 4, .int .u32 6] 32)).alloc (.cells #[.string ⟨#[102]⟩, .int .u32 3] 54)) (w.heap.size + 1 + 1 + 1) (.slice (some ⟨w.heap.size + 1 + 1, 0, none⟩) 1 1) [3] := by
    refine ⟨_, _, rfl, Nat.le_refl _, by decide, (fun k => by match k with | 0 => decide | k + 1 => simp), fun _ => ⟨_, _, rfl, Nat.lt_succ_self _, fun k hk => ?_⟩⟩
    have hk0 : k = 0 := by simp at hk; omega
    subst hk0
    have := cells_new2 ((w.alloc (.cells #[.int .u8 3, .int .u32 8, .int .u8 8, .int .u32 0, .int .u8 4, .int .u32 8, .int .u8 3, .int .u32 4, .int .u8 8, .int .u32 4, .int .u8 7, .int .u32 0, .int .u8 8, .int .u32 1, .int .u8 4, .int .u32 4] 49)).alloc (.cells #[.int .u32 4, .int .u32 6] 32)) (.string ⟨#[102]⟩) (.int .u32 3) 54
    rw [s2] at this
    exact ⟨_, this.1, this.2⟩
  have b2 : Below (w.alloc (.cells #[.int .u8 3, .int .u32 8, .int .u8 8, .int .u32 0, .int .u8 4, .int .u32 8, .int .u8 3, .int .u32 4, .int .u8 8, .int .u32 4, .int .u8 7, .int .u32 0, .int .u8 8, .int .u32 1, .int .u8 4, .int .u32 4] 49)).heap.size (w.alloc (.cells #[.int .u8 3, .int .u32 8, .int .u8 8, .int .u32 0, .int .u8 4, .int .u32 8, .int .u8 3, .int .u32 4, .int .u8 8, .int .u32 4, .int .u8 7, .int .u32 0, .int .u8 8, .int .u32 1, .int .u8 4, .int .u32 4] 49)) (((w.alloc (.cells #[.int .u8 3, .int .u32 8, .int .u8 8, .int .u32 0, .int .u8 4, .int .u32 8, .int .u8 3, .int .u32 4, .int .u8 8, .int .u32 4, .int .u8 7, .int .u32 0, .int .u8 8, .int .u32 1, .int .u8 4, .int .u32 4] 49)).alloc (.cells #[.int .u32 4, .int .u32 6] 32)).alloc (.cells #[.string ⟨#[102]⟩, .int .u32 3] 54)) := Bel.tr n2 n3
  have r2' : RowU (((w.alloc (.cells #[.int .u8 3, .int .u32 8, .int .u8 8, .int .u32 0, .int .u8 4, .int .u32 8, .int .u8 3, .int .u32 4, .int .u8 8, .int .u32 4, .int .u8 7, .int .u32 0, .int .u8 8, .int .u32 1, .int .u8 4, .int .u32 4] 49)).alloc (.cells #[.int .u32 4, .int .u32 6] 32)).alloc (.cells #[.string ⟨#[102]⟩, .int .u32 3] 54)) (w.heap.size + 1 + 1 + 1) (.slice (some ⟨w.heap.size + 1, 0, none⟩) 2 2) [4, 6] := by
    have := (show RowU ((w.alloc (.cells #[.int .u8 3, .int .u32 8, .int .u8 8, .int .u32 0, .int .u8 4, .int .u32 8, .int .u8 3, .int .u32 4, .int .u8 8, .int .u32 4, .int .u8 7, .int .u32 0, .int .u8 8, .int .u32 1, .int .u8 4, .int .u32 4] 49)).alloc (.cells #[.int .u32 4, .int .u32 6] 32)) ((w.alloc (.cells #[.int .u8 3, .int .u32 8, .int .u8 8, .int .u32 0, .int .u8 4, .int .u32 8, .int .u8 3, .int .u32 4, .int .u8 8, .int .u32 4, .int .u8 7, .int .u32 0, .int .u8 8, .int .u32 1, .int .u8 4, .int .u32 4] 49)).alloc (.cells #[.int .u32 4, .int .u32 6] 32)).heap.size _ _ from by rw [s2]; exact r2).calm n3 (B := w.heap.size + 1 + 1 + 1) (by rw [s2]; omega)
    exact this
  have hf := find_any (w := (((w.alloc (.cells #[.int .u8 3, .int .u32 8, .int .u8 8, .int .u32 0, .int .u8 4, .int .u32 8, .int .u8 3, .int .u32 4, .int .u8 8, .int .u32 4, .int .u8 7, .int .u32 0, .int .u8 8, .int .u32 1, .int .u8 4, .int .u32 4] 49)).alloc (.cells #[.int .u32 4, .int .u32 6] 32)).alloc (.cells #[.string ⟨#[102]⟩, .int .u32 3] 54))) _ _ _ smallCode [4, 6] [3] (r1.below b2) (by rw [s3]; exact r2') (by rw [s3]; exact r3)
  refine hf.mono ?_
  rintro e w' ⟨hb, hx⟩
  have hbw : Below w.heap.size w w' := Bel.tr (Bel.tr n1 b2) hb
  rcases hx with ⟨i, c, -, hbad⟩ | ⟨b, B, he, -, h1, h2, h3⟩
  · exact absurd hbad small_ok.not_bad
  · exact ⟨b, B, he, hbw, by rw [s3] at h1; omega, h2, h3⟩
set_option maxRecDepth 100000 in
set_option maxHeartbeats 1000000 in
theorem small_any (w : World) : Calls Try.prog 8 #[] w (SmallPost w) := by
  have h1 := run_b40
  have h2 := run_b40_1
  have h3 := run_b52
  have h4 := run_bs22
  have h5 := run_bs23
  have h6 := run_bs24
  go_enter Try.func8, Try.ntmps8
  go_wp2_with fail
  refine (small_find w).mono ?_
  rintro e w' ⟨b, B, rfl, hb, h7, h8, h9⟩
  have HF := Lib.hid (show SmallPost w (.returned (.pointer (some ⟨b, 0, none⟩))) w' from ⟨b, B, rfl, hb, h7, h8, h9⟩)
  clear hb h7 h8 h9 h1 h2 h3 h4 h5 h6
  go_wp2
  go_ret
  exact HF.out
end Go.Proofs.Ytofkamnmgpkehab
