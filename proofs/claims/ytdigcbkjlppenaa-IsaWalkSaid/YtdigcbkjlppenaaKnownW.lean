import Derived.Test.YtdigcbkjlppenaaDecode
import Derived.Test.YtdigcbkjlppenaaJoinsW
import Derived.Test.YtdigcbkjlppenaaIsaByWord
import Derived.Laws.BytesArg
namespace Go.Proofs.Ytdigcbkjlppenaa
open Go.RowKit
theorem known12 (W : World) : Calls Try.prog 17 #[.int .u8 12] W fun e w' => e = .returned (.tuple #[.agg #[.string ⟨#[97, 114, 103]⟩, .int .i64 1, .int .u32 14, .int .i64 1, .int .i64 0, .int .u8 1], .bool true]) ∧ Below W.heap.size W w' := info_any 12 (by decide) W
theorem knownW1 (W : World) : Calls Try.prog 19 #[.string ⟨#[103, 116, 102]⟩] W fun e w' => e = .returned (.tuple #[.int .u8 27, .bool true]) ∧ Below W.heap.size W w' := by
  have h : byWord ⟨#[103, 116, 102]⟩ = 27 := by decide +kernel
  have := byWord_any ⟨#[103, 116, 102]⟩ W
  rw [h] at this
  exact this
theorem knownW2 (W : World) : Calls Try.prog 19 #[.string ⟨#[71, 116, 102]⟩] W fun e w' => e = .returned (.tuple #[.int .u8 0, .bool false]) ∧ Below W.heap.size W w' := by
  have h : byWord ⟨#[71, 116, 102]⟩ = 0 := by decide +kernel
  have := byWord_any ⟨#[71, 116, 102]⟩ W
  rw [h] at this
  exact this
theorem knownC (o a r : Nat) (ho : o < 256) (h : checkN o a = r) (W : World) : Calls Try.prog 21 #[.agg #[.int .u8 o, .int .u32 a]] W fun e w' => e = .returned (.int .i64 r) ∧ Below W.heap.size W w' := by
  rw [← h]; exact check_any o a ho W
theorem knownC1 (W : World) : Calls Try.prog 21 #[.agg #[.int .u8 3, .int .u32 65536]] W fun e w' => e = .returned (.int .i64 71) ∧ Below W.heap.size W w' := knownC 3 65536 71 (by decide) (by decide) W
theorem knownC2 (W : World) : Calls Try.prog 21 #[.agg #[.int .u8 10, .int .u32 1]] W fun e w' => e = .returned (.int .i64 71) ∧ Below W.heap.size W w' := knownC 10 1 71 (by decide) (by decide) W
theorem knownC3 (W : World) : Calls Try.prog 21 #[.agg #[.int .u8 60, .int .u32 0]] W fun e w' => e = .returned (.int .i64 70) ∧ Below W.heap.size W w' := knownC 60 0 70 (by decide) (by decide) W
theorem knownB1 (x : Int) (w : World) : (Instr.build 36 #[(0, .int .u8 x)]).run Try.prog w = .ok (.agg #[.int .u8 x, .int .u32 0]) w := by kernel_rfl
theorem knownB0 (w : World) : (Instr.build 36 #[]).run Try.prog w = .ok (.agg #[.int .u8 0, .int .u32 0]) w := by kernel_rfl
theorem knownB26 (w : World) : (Instr.build 26 #[(0, .string ⟨#[97, 114, 103]⟩), (1, .int .i64 1), (2, .int .u32 14), (3, .int .i64 1), (4, .int .i64 0), (5, .int .u8 1)]).run Try.prog w =
    .ok (.agg #[.string ⟨#[97, 114, 103]⟩, .int .i64 1, .int .u32 14, .int .i64 1, .int .i64 0, .int .u8 1]) w := by kernel_rfl
theorem knownS (a b c d e f : Int) (w : World) : (Instr.buildSlice 43 3 #[(0, .agg #[.int .u8 a, .int .u32 b]), (1, .agg #[.int .u8 c, .int .u32 d]), (2, .agg #[.int .u8 e, .int .u32 f])]).run Try.prog w =
    .ok (.slice (some ⟨w.heap.size, 0, none⟩) 3 3) (w.alloc (.cells #[.int .u8 a, .int .u32 b, .int .u8 c, .int .u32 d, .int .u8 e, .int .u32 f] 36)) := by kernel_rfl
theorem reads_new (w : World) (sz n : Nat) (cs : Array Value) (t : TypeId) (h : cs.size = n * sz) (hn : n ≤ maxLen) : Reads (w.alloc (.cells cs t)) sz (.slice (some ⟨w.heap.size, 0, none⟩) n n) n cs.toList := by
  refine ⟨_, _, rfl, by simpa using h, Nat.le_refl _, hn, (fun h => by cases h), fun _ => ⟨w.heap.size, 0, rfl, by simp, fun j hj => ?_⟩⟩
  have := news_new w cs t j _ (List.getElem?_eq_getElem hj)
  rw [List.getElem?_eq_getElem hj]
  exact (by rw [Nat.zero_add] : (w.alloc (.cells cs t)).cell? ⟨w.heap.size, 0 + j, none⟩ = (w.alloc (.cells cs t)).cell? ⟨w.heap.size, j, none⟩).trans (by rw [← this]; congr 1; simp [Addr.add])
theorem knownE1 (W : World) : Calls Try.prog 37 #[.slice (some ⟨W.heap.size, 0, none⟩) 3 3] (W.alloc (.cells #[.int .u8 3, .int .u32 8, .int .u8 8, .int .u32 258, .int .u8 4, .int .u32 8] 36)) fun e w' =>
    ∃ g c, e = .returned (.tuple #[.slice (some ⟨g, 0, none⟩) 11 c, .int .i64 0, .int .i64 0]) ∧ Below W.heap.size W w' ∧ Bytes w' (.slice (some ⟨g, 0, none⟩) 11 c) [3, 8, 0, 8, 2, 1, 0, 0, 4, 8, 0] := by
  have h : encRes [(3, 8), (8, 258), (4, 8)] = ([3, 8, 0, 8, 2, 1, 0, 0, 4, 8, 0], 0, 0) := by decide +kernel
  refine (encode_any _ [(3, 8), (8, 258), (4, 8)] _ ⟨reads_new W 2 3 #[.int .u8 3, .int .u32 8, .int .u8 8, .int .u32 258, .int .u8 4, .int .u32 8] 36 rfl (by decide), by decide⟩).mono ?_
  rintro e w' ⟨u, he, ho, hg, _⟩
  rw [h] at he ho
  obtain ⟨g, c, rfl, _⟩ := own_formB ho (by decide)
  exact ⟨g, c, he, Bel.of hg.bel, Bytes.own ho (by decide)⟩
theorem knownE2 (W : World) : Calls Try.prog 37 #[.slice (some ⟨W.heap.size, 0, none⟩) 3 3] (W.alloc (.cells #[.int .u8 1, .int .u32 0, .int .u8 12, .int .u32 15, .int .u8 0, .int .u32 0] 36)) fun e w' =>
    ∃ u, e = .returned (.tuple #[u, .int .i64 1, .int .i64 71]) ∧ Below W.heap.size W w' := by
  have h : encRes [(1, 0), (12, 15), (0, 0)] = ([], 1, 71) := by decide +kernel
  refine (encode_any _ [(1, 0), (12, 15), (0, 0)] _ ⟨reads_new W 2 3 #[.int .u8 1, .int .u32 0, .int .u8 12, .int .u32 15, .int .u8 0, .int .u32 0] 36 rfl (by decide), by decide⟩).mono ?_
  rintro e w' ⟨u, he, ho, hg, _⟩
  rw [h] at he ho
  exact ⟨u, he, Bel.of hg.bel⟩
theorem knownD (l : List Nat) (n : Nat) (cs : Array Value) (p r : Nat) (hl : l.length = n) (hcs : cs.toList = encN .u8 l) (hlt : ∀ i ∈ l, i < 256) (hn : n ≤ maxLen) (h : decRes l = ([], p, r)) (W : World) :
    Calls Try.prog 44 #[.slice (some ⟨W.heap.size, 0, none⟩) n n] (W.alloc (.cells cs 5)) fun e w' => ∃ u, e = .returned (.tuple #[u, .int .i64 p, .int .i64 r]) ∧ Below W.heap.size W w' := by
  subst hl
  have hr := reads_new W 1 l.length cs 5 (by rw [← Array.length_toList, hcs, encN_length]; omega) hn
  rw [hcs] at hr
  refine (decode_any _ l _ ⟨hr, hlt⟩).mono ?_
  rintro e w' ⟨u, he, ho, hb, _⟩
  rw [h] at he
  exact ⟨u, he, Bel.of hb⟩
theorem knownD1 (W : World) : Calls Try.prog 44 #[.slice (some ⟨W.heap.size, 0, none⟩) 3 3] (W.alloc (.cells #[.int .u8 1, .int .u8 12, .int .u8 15] 5)) fun e w' => ∃ u, e = .returned (.tuple #[u, .int .i64 1, .int .i64 71]) ∧ Below W.heap.size W w' :=
  knownD [1, 12, 15] 3 _ 1 71 rfl rfl (by decide) (by decide) (by decide +kernel) W
theorem knownD2 (W : World) : Calls Try.prog 44 #[.slice (some ⟨W.heap.size, 0, none⟩) 4 4] (W.alloc (.cells #[.int .u8 1, .int .u8 8, .int .u8 2, .int .u8 1] 5)) fun e w' => ∃ u, e = .returned (.tuple #[u, .int .i64 1, .int .i64 72]) ∧ Below W.heap.size W w' :=
  knownD [1, 8, 2, 1] 4 _ 1 72 rfl rfl (by decide) (by decide) (by decide +kernel) W
theorem knownD3 (W : World) : Calls Try.prog 44 #[.slice (some ⟨W.heap.size, 0, none⟩) 3 3] (W.alloc (.cells #[.int .u8 1, .int .u8 0, .int .u8 8] 5)) fun e w' => ∃ u, e = .returned (.tuple #[u, .int .i64 1, .int .i64 70]) ∧ Below W.heap.size W w' :=
  knownD [1, 0, 8] 3 _ 1 70 rfl rfl (by decide) (by decide) (by decide +kernel) W
theorem knownT3 (a b c : Int) (w : World) : (Instr.buildSlice 41 3 #[(0, .int .u8 a), (1, .int .u8 b), (2, .int .u8 c)]).run Try.prog w = .ok (.slice (some ⟨w.heap.size, 0, none⟩) 3 3) (w.alloc (.cells #[.int .u8 a, .int .u8 b, .int .u8 c] 5)) := by kernel_rfl
theorem knownT4 (a b c d : Int) (w : World) : (Instr.buildSlice 41 4 #[(0, .int .u8 a), (1, .int .u8 b), (2, .int .u8 c), (3, .int .u8 d)]).run Try.prog w = .ok (.slice (some ⟨w.heap.size, 0, none⟩) 4 4) (w.alloc (.cells #[.int .u8 a, .int .u8 b, .int .u8 c, .int .u8 d] 5)) := by kernel_rfl
theorem known_str (w : World) (g c : Nat) (hby : Bytes w (.slice (some ⟨g, 0, none⟩) 11 c) [3, 8, 0, 8, 2, 1, 0, 0, 4, 8, 0]) :
    (convert 41 9 (.slice (some ⟨g, 0, none⟩) 11 c)).run Try.prog w = .ok (.string ⟨#[3, 8, 0, 8, 2, 1, 0, 0, 4, 8, 0]⟩) w := by
  obtain ⟨a0, c0, ev, _, _, _, hcl⟩ := hby.opened
  simp only [Value.slice.injEq] at ev
  obtain ⟨rfl, -, rfl⟩ := ev
  obtain ⟨b, off, eb, hbl, hc⟩ := hcl (by decide)
  cases eb
  have hx : ∀ i, i < 11 → ((([3, 8, 0, 8, 2, 1, 0, 0, 4, 8, 0] : List Nat).getD i 0 : Nat) : Int) = ([3, 8, 0, 8, 2, 1, 0, 0, 4, 8, 0] : List Int).getD i 0 := by decide
  have := run_convert_bytes_arg (P := Try.prog) w 41 5 Try.underlying41 (by kernel_rfl) g 0 11 c ([3, 8, 0, 8, 2, 1, 0, 0, 4, 8, 0] : List Int) rfl (fun i hi => by rw [← hx i hi]; exact hc i hi) 9 (by kernel_rfl)
  rw [this]
  rfl
set_option maxRecDepth 100000 in
set_option maxHeartbeats 4000000 in
theorem isaKnown_walk (w : World) : Calls Try.prog 16 #[] w fun e w' => e = .returned (.bool true) ∧ Below w.heap.size w w' := by
  have hB1 := knownB1
  have hB0 := knownB0
  have hB26 := knownB26
  have hb36 := run_build36
  have hS := knownS
  have hz36 := zero36
  go_enter Try.func16, Try.ntmps16
  go_wp2_with (go_at_call 17; refine (known12 _).mono ?_; rintro e w1 ⟨rfl, hb1⟩)
  refine (knownW1 _).mono ?_
  rintro e w2 ⟨rfl, hb2⟩
  go_wp2_with fail
  refine (knownW2 _).mono ?_
  rintro e w3 ⟨rfl, hb3⟩
  go_wp2_with fail
  refine (knownC1 _).mono ?_
  rintro e w4 ⟨rfl, hb4⟩
  go_wp2_with fail
  refine (knownC2 _).mono ?_
  rintro e w5 ⟨rfl, hb5⟩
  go_wp2_with fail
  refine (knownC3 _).mono ?_
  rintro e w6 ⟨rfl, hb6⟩
  go_wp2_with fail
  refine (knownE1 _).mono ?_
  rintro e w7 ⟨g, c, rfl, hb7, hby⟩
  have hcv := known_str w7 g c hby
  have hT3 := knownT3
  have hT4 := knownT4
  go_wp2_with fail
  refine (knownE2 _).mono ?_
  rintro e w8 ⟨u8, rfl, hb8⟩
  go_wp2_with fail
  refine (knownD1 _).mono ?_
  rintro e w9 ⟨u9, rfl, hb9⟩
  go_wp2_with fail
  refine (knownD2 _).mono ?_
  rintro e w10 ⟨u10, rfl, hb10⟩
  go_wp2_with fail
  refine (knownD3 _).mono ?_
  rintro e w11 ⟨u11, rfl, hb11⟩
  go_wp2
  go_ret
  refine ⟨rfl, ?_⟩
  exact Bel.tr (Bel.tr (Bel.tr (Bel.tr (Bel.tr (Bel.tr (Bel.tr (Bel.tr (Bel.tr (Bel.tr hb1 (Bel.of hb2)) hb3) hb4) hb5) hb6) hb7) hb8) hb9) hb10) hb11
end Go.Proofs.Ytdigcbkjlppenaa
