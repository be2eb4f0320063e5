import Derived.Test.YtofkamnmgpkehabRefS
/- The document's Legal and Targets: the walks. -/
namespace Go.Proofs.Ytofkamnmgpkehab
open Go.RowKit
def legalR (O js : List Nat) (x y : Nat) : Bool := decide (y ∈ js) && (decide (0 ≤ ofN O x) && decide (ofN O x = ofN O y))
theorem mem_some {js : List Nat} {y : Nat} : y ∈ js ↔ ∃ j, j < js.length ∧ js.getD j 0 = y := by
  rw [List.mem_iff_getElem]
  constructor
  · rintro ⟨i, hi, h⟩
    exact ⟨i, hi, by rw [List.getD_eq_getElem?_getD, List.getElem?_eq_getElem hi]; exact h⟩
  · rintro ⟨i, hi, h⟩
    rw [List.getD_eq_getElem?_getD, List.getElem?_eq_getElem hi] at h
    exact ⟨i, hi, h⟩
set_option maxRecDepth 100000 in
set_option maxHeartbeats 1000000 in
theorem reflegal_any (v vj : Value) (code : List (Nat × Nat)) (js : List Nat) (hl : code.length ≤ 16384) (h3 : (code.getD 0 (0, 0)).1 = 3) (x y : Nat) (hx : x < 4294967296) (hy : y < 4294967296) (w : World) (B : Nat) (hv : Instrs w v code) (hj : RowU w B vj js) :
    Calls Try.prog 25 #[v, vj, .int .u32 x, .int .u32 y] w fun e w' => e = .returned (.bool (legalR (ofTo code code.length) js x y)) ∧ w' = w := by
  have Ho := Lib.hid (fun (z : Nat) (hz : z < 4294967296) => refof_any v code hl h3 z hz w hv)
  have hofn : ∀ z, (ofN (ofTo code code.length) z = -1) ∨ ∃ n : Nat, ofN (ofTo code code.length) z = n := by
    intro z
    unfold ofN
    split
    · exact .inr ⟨_, rfl⟩
    · exact .inl rfl
  obtain ⟨aj, capj, rfl, hjc, hjm, hjl, hjp⟩ := hj
  have hjm2 : js.length ≤ 9223372036854775807 := by unfold maxLen at hjm; omega
  have Hjp := Lib.hid hjp
  obtain ⟨n, hn⟩ : ∃ n, n = js.length := ⟨_, rfl⟩
  have HN := Lib.hid hn
  obtain ⟨d, hd⟩ : ∃ d, d = decide (y ∈ js) := ⟨_, rfl⟩
  have HD := Lib.hid hd
  have Ho1 := Lib.hid (Ho.out x hx)
  have Ho2 := Lib.hid (Ho.out y hy)
  have hof1 := hofn x
  unfold legalR
  rw [← hn] at hjc hjm2 ⊢
  rw [← hd]
  clear hjp hjl hv hn hd hjm Ho hofn
  generalize ofN (ofTo code code.length) x = p at *
  generalize ofN (ofTo code code.length) y = q at *
  obtain ⟨r, hr⟩ : ∃ r, r = (d && (decide (0 ≤ p) && decide (p = q))) := ⟨_, rfl⟩
  have HRr := Lib.hid hr
  rw [← hr]
  clear hr
  go_enter Try.func25, Try.ntmps25
  go_wp2_with fail
  go_loopw [9, 10] (fun l i wr => ∃ (k : Nat) (b : Bool), k ≤ n ∧ l = .bool b ∧ i = .int .i64 k ∧ (b = true ↔ ∃ j, j < k ∧ js.getD j 0 = y) ∧ wr = w) (fun _ i _ => n - (intOf i).toNat)
  case atStart => exact ⟨0, false, by omega, rfl, rfl, ⟨fun h => (by cases h), fun ⟨j, h, _⟩ => absurd h (Nat.not_lt_zero j)⟩, rfl⟩
  case round =>
    obtain ⟨k, b, hk, rfl, rfl, hb, rfl⟩ := hrel
    by_cases hlt : k < n
    · obtain ⟨jb, joff, rfl, hjb, hjc2⟩ := Hjp.out (by rw [← HN.out]; omega)
      have hq := hjc2 k (by rw [← HN.out]; exact hlt)
      have hki : (k : Int) < (n : Int) := by omega
      have hk0 : (0 : Int) ≤ (k : Int) := by omega
      have Hb := Lib.hid hb
      clear hb hjc2
      by_cases hz : js.getD k 0 = y
      · have hd : (((js.getD k 0 : Nat) : Int) == (y : Int)) = true := beq_iff_eq.2 (by omega)
        have Hb2 := Lib.hid (show (true = true ↔ ∃ j, j < k + 1 ∧ js.getD j 0 = y) from ⟨fun _ => ⟨k, Nat.lt_succ_self k, hz⟩, fun _ => rfl⟩)
        clear hz
        generalize js.getD k 0 = z at *
        go_wp2_with fail
        go_roundw
        case rel => exact ⟨k + 1, true, by omega, rfl, by go_num, Hb2.out, trivial⟩
        case measure => simp [intOf]; omega
      · have hd : (((js.getD k 0 : Nat) : Int) == (y : Int)) = false := beq_eq_false_iff_ne.2 (by omega)
        have Hb2 := Lib.hid (show (b = true ↔ ∃ j, j < k + 1 ∧ js.getD j 0 = y) from by
          rw [Hb.out]
          constructor
          · rintro ⟨j, h1, h2⟩; exact ⟨j, by omega, h2⟩
          · rintro ⟨j, h1, h2⟩
            have : j ≠ k := fun e => hz (by rw [← e]; exact h2)
            exact ⟨j, by omega, h2⟩)
        clear hz
        generalize js.getD k 0 = z at *
        go_wp2_with fail
        go_roundw
        case rel => exact ⟨k + 1, b, by omega, rfl, by go_num, Hb2.out, trivial⟩
        case measure => simp [intOf]; omega
    · obtain rfl : n = k := by omega
      have Hbd := Lib.hid (show b = d from by
        rw [HD.out, Bool.eq_iff_iff, hb, decide_eq_true_iff, mem_some, HN.out])
      clear hb
      go_wp2_with fail
      refine Ho1.out.mono ?_
      rintro e w2 ⟨rfl, hw2⟩
      subst hw2
      clear Ho1
      cases b with
      | false =>
        have hrf : r = false := by rw [HRr.out, ← Hbd.out]; rfl
        subst hrf
        go_wp2_with fail
        go_ret
        exact ⟨rfl, rfl⟩
      | true =>
        have Hr2 := Lib.hid (show r = (decide (0 ≤ p) && decide (p = q)) by rw [HRr.out, ← Hbd.out]; rfl)
        rcases hof1 with hp | ⟨m, hp⟩
        · have hrf : r = false := by rw [Hr2.out, hp]; rfl
          have d1 : decide (0 ≤ p) = false := decide_eq_false (by omega)
          subst hrf
          clear hp
          go_wp2_with fail
          go_ret
          exact ⟨rfl, rfl⟩
        · have Hr3 := Lib.hid (show r = decide (p = q) by rw [Hr2.out, decide_eq_true (by omega : 0 ≤ p), Bool.true_and])
          have d1 : decide (0 ≤ p) = true := decide_eq_true (by omega)
          clear hp
          go_wp2_with fail
          refine Ho2.out.mono ?_
          rintro e w3 ⟨rfl, hw3⟩
          subst hw3
          clear Ho2
          by_cases hpq : p = q
          · have hrf : r = true := by rw [Hr3.out]; exact decide_eq_true hpq
            have d2 : (p == q) = true := by simp [hpq]
            subst hrf
            clear hpq
            go_wp2_with fail
            go_ret
            exact ⟨rfl, rfl⟩
          · have hrf : r = false := by rw [Hr3.out]; exact decide_eq_false hpq
            have d2 : (p == q) = false := by simp [hpq]
            subst hrf
            clear hpq
            go_wp2_with fail
            go_ret
            exact ⟨rfl, rfl⟩
def aimR (O js : List Nat) (i : Int) : List Nat := js.filter fun j => decide (ofN O j = i)
theorem take_getD (js : List Nat) {k : Nat} (hk : k < js.length) : js.take (k + 1) = js.take k ++ [js.getD k 0] := by
  rw [List.take_add_one, List.getElem?_eq_getElem hk, List.getD_eq_getElem?_getD, List.getElem?_eq_getElem hk]; rfl
theorem aimR_le (O js : List Nat) (i : Int) (k : Nat) : (aimR O (js.take k) i).length ≤ k := by
  refine Nat.le_trans (List.length_filter_le _ _) ?_
  rw [List.length_take]; omega
theorem run_bs23_r (x : Int) (w : World) : (Instr.buildSlice 23 1 #[(0, .int .u32 x)]).run Try.prog w = .ok (.slice (some ⟨w.heap.size, 0, none⟩) 1 1) (w.alloc (.cells #[.int .u32 x] 32)) := by kernel_rfl
set_option maxRecDepth 100000 in
set_option maxHeartbeats 1000000 in
theorem reftargets_any (v vj : Value) (code : List (Nat × Nat)) (js : List Nat) (hl : code.length ≤ 16384) (h3 : (code.getD 0 (0, 0)).1 = 3) (q : Int) (hjs : js.length ≤ 16384) (w : World) (hv : Instrs w v code) (hj : RowU w w.heap.size vj js) :
    Calls Try.prog 26 #[v, vj, .int .i64 q] w fun e w' => ∃ u, e = .returned u ∧ w'.ownsRow w.heap.size 32 1 u (aimR (ofTo code code.length) js q).length (encN .u32 (aimR (ofTo code code.length) js q)) ∧ Below w.heap.size w w' := by
  obtain ⟨i0, hi, hz0, hz1, hz2⟩ := info_parts info32
  have hb23 := run_bs23_r
  have Ho := Lib.hid (fun (z : Nat) (hz : z < 4294967296) (W : World) (hb : Below w.heap.size w W) => refof_any v code hl h3 z hz W (hv.below hb))
  obtain ⟨aj, capj, rfl, hjc, hjm, hjl, hjp⟩ := hj
  have hjm2 : js.length ≤ 9223372036854775807 := by omega
  have Hjp := Lib.hid hjp
  have Hjl := Lib.hid hjl
  clear hjp hjl hjm hv h3 hl
  generalize ofTo code code.length = O at *
  obtain ⟨n, hn⟩ : ∃ n, n = js.length := ⟨_, rfl⟩
  have HN := Lib.hid hn
  have Hfull := Lib.hid (show js.take n = js from by rw [hn]; exact List.take_length)
  rw [← hn] at hjc hjm2 hjs ⊢
  clear hn
  go_enter Try.func26, Try.ntmps26
  go_wp2_with fail
  go_loopw [7, 8] (fun s i wr => ∃ (k : Nat) (u : Value), k ≤ n ∧ u = s ∧ i = .int .i64 k ∧ wr.ownsRow w.heap.size 32 1 u (aimR O (js.take k) q).length (encN .u32 (aimR O (js.take k) q)) ∧ Below w.heap.size w wr) (fun _ i _ => n - (intOf i).toNat)
  case atStart => exact ⟨0, .slice none 0 0, by omega, rfl, rfl, World.ownsRow_nil _ _ _ _, Below.refl _ _⟩
  case round =>
    obtain ⟨k, u, hk, rfl, rfl, ho, hb⟩ := hrel
    by_cases hlt : k < n
    · obtain ⟨jb, joff, rfl, hjb, hjc2⟩ := Hjp.out (by rw [← HN.out]; omega)
      have hq := (hb.cell (p := ⟨jb, joff + k, none⟩) hjb).trans (hjc2 k (by rw [← HN.out]; exact hlt))
      have hki : (k : Int) < (n : Int) := by omega
      have hk0 : (0 : Int) ≤ (k : Int) := by omega
      have hst := take_getD js (k := k) (by rw [← HN.out]; exact hlt)
      have Hst := Lib.hid (show aimR O (js.take (k + 1)) q = aimR O (js.take k) q ++ if ofN O (js.getD k 0) = q then [js.getD k 0] else [] from by
        unfold aimR
        rw [hst, List.filter_append, List.filter_cons]
        simp)
      have Hle := aimR_le O js q k
      have Hoz := Lib.hid (Ho.out (js.getD k 0) (Hjl.out k) wr hb)
      have Hown := Lib.hid ho
      have Hb := Lib.hid hb
      clear hst ho hjc2 hb
      generalize hxx : aimR O (js.take k) q = xs at *
      have hb63 : xs.length + 1 ≤ maxLen := by unfold maxLen; omega
      have hb47 : (xs.length + 1) * 4 ≤ 140737488355328 := by omega
      clear hxx
      by_cases hz : ofN O (js.getD k 0) = q
      · have Hst2 := Lib.hid (show aimR O (js.take (k + 1)) q = xs ++ [js.getD k 0] from by rw [Hst.out, if_pos hz])
        rw [hz] at Hoz
        clear hz Hst
        generalize js.getD k 0 = z at *
        go_wp2_with fail
        refine Hoz.out.mono ?_
        rintro e w2 ⟨rfl, hw2⟩
        subst hw2
        have hr := own_base Hown.out
        go_wp2_with ((with_reducible refine wpList_append1 (o := ⟨some 29, .call { callee := .builtin .append, args := #[.tmp 23, .tmp 28], argTypes := #[23, 23] }, _, _, _, none⟩) rfl _ _ 23 rfl 32 i0 (.int .u32 0) 1 4 Try.underlying23 hi hz0 hz1 hz2 ?_ ?_ _ _ _ hr _ _ ?_ ?_ ?_ ?_ ?_ ?_ ?_); rfl; decide; rfl; rfl; rfl; (simp [Value.oneCell']); exact hb63; exact hb47; intro g5 c5 w5 o5 g5' hl5)
        have Hx := Lib.hid (show w5.ownsRow w.heap.size 32 1 (.slice (some ⟨g5, 0, none⟩) (xs.length + 1) c5) (aimR O (js.take (k + 1)) q).length (encN .u32 (aimR O (js.take (k + 1)) q)) ∧ Below w.heap.size w w5 from by
          refine ⟨?_, Hb.out.grown g5'.1 Hb.out.size (fun g e => (Hown.out.lt g e).1)⟩
          rw [Hst2.out, List.length_append, encN_append]
          refine own_from o5 (fun g e => ?_)
          rcases g5'.2 g e with h' | h'
          · exact (Hown.out.lt g h').1
          · exact Nat.le_trans Hb.out.size h')
        clear hr o5 g5'
        go_roundw
        case rel => exact ⟨k + 1, _, by omega, rfl, by go_num, Hx.out⟩
        case measure => simp [intOf]; omega
      · have hd : (ofN O (js.getD k 0) == q) = false := beq_eq_false_iff_ne.2 hz
        have Hx := Lib.hid (show wr.ownsRow w.heap.size 32 1 u (aimR O (js.take (k + 1)) q).length (encN .u32 (aimR O (js.take (k + 1)) q)) ∧ Below w.heap.size w wr from by
          rw [Hst.out, if_neg hz, List.append_nil]
          exact ⟨Hown.out, Hb.out⟩)
        clear hz Hst Hown
        generalize ofN O (js.getD k 0) = p at *
        generalize js.getD k 0 = z at *
        go_wp2_with fail
        refine Hoz.out.mono ?_
        rintro e w2 ⟨rfl, hw2⟩
        subst hw2
        go_wp2_with fail
        go_roundw
        case rel => exact ⟨k + 1, u, by omega, rfl, by go_num, Hx.out⟩
        case measure => simp [intOf]; omega
    · obtain rfl : n = k := by omega
      have Hx := Lib.hid (show wr.ownsRow w.heap.size 32 1 u (aimR O js q).length (encN .u32 (aimR O js q)) ∧ Below w.heap.size w wr from by
        rw [Hfull.out] at ho
        exact ⟨ho, hb⟩)
      clear ho hb
      go_wp2_with fail
      exact bodyPost_ret (v := u) (by simp [results, Try.results26, go_sem]) rfl ⟨_, rfl, Hx.out⟩
end Go.Proofs.Ytofkamnmgpkehab
