import Derived.Test.YtofkamnmgpkehaaDoorIntB
/- Lists of ints. -/
namespace Go.Proofs.YtofkamnmgpkehaaDoor.I
open Go.RowKit
attribute [local go_sem] Oper.semAt_some
set_option maxRecDepth 100000 in
set_option maxHeartbeats 1000000 in
theorem inwords_any (v : Value) (l : List Nat) (x : Nat) (w : World) (hu : Up l) (h : Reads w 1 v l.length (encN .i64 l)) :
    Calls Tryd.prog 39 #[v, .int .i64 x] w fun e w' => (∃ k, e = .returned (.tuple #[.int .i64 (k : Nat), .bool (decide (x ∈ l))]) ∧ Place l x k) ∧ Below w.heap.size w w' := by
  obtain ⟨a, cap, rfl, hlc, hcm, hnil, hp⟩ := reads_opened h
  have hnL : l.length ≤ 9223372036854775807 := by unfold maxLen at hcm; omega
  have Hp := Lib.hid hp
  have HU := Lib.hid hu
  obtain ⟨n, hn⟩ : ∃ n, n = l.length := ⟨_, rfl⟩
  have HN := Lib.hid hn
  rw [← hn] at hlc hnL ⊢
  clear h hp hcm hnil hn hu
  go_enter Tryd.func39, Tryd.ntmps39
  go_wp2
  go_loopw [6] (fun i wr => ∃ k : Nat, k ≤ n ∧ i = .int .i64 k ∧ (∀ j, j < k → l.getD j 0 < x) ∧ wr = w) (fun i _ => n - (intOf i).toNat)
  case atStart => exact ⟨0, by omega, rfl, fun j h => absurd h (Nat.not_lt_zero _), rfl⟩
  case round =>
    obtain ⟨k, hk, rfl, hlo, rfl⟩ := hrel
    by_cases hlt : k < n
    · obtain ⟨b, off, rfl, hb, hc⟩ := Hp.out (by rw [← HN.out]; omega)
      have hck := hc k (by rw [← HN.out]; exact hlt)
      have hki : (k : Int) < (n : Int) := by omega
      have hk0 : (0 : Int) ≤ (k : Int) := by omega
      have Hlo := Lib.hid hlo
      have hkl : k < l.length := by rw [← HN.out]; exact hlt
      clear hc hlo
      by_cases hx : l.getD k 0 < x
      · have hxd : decide (((l.getD k 0 : Nat) : Int) < (x : Int)) = true := decide_eq_true (by omega)
        have Hnext := Lib.hid (show ∀ j, j < k + 1 → l.getD j 0 < x from fun j hj => by
          rcases Nat.lt_or_eq_of_le (Nat.le_of_lt_succ hj) with e | e
          · exact Hlo.out j e
          · rw [e]; exact hx)
        generalize l.getD k 0 = z at *
        go_wp2
        go_roundw
        case rel => exact ⟨k + 1, by omega, by go_num, Hnext.out, trivial⟩
        case measure => simp [intOf]; omega
      · have hxd : decide (((l.getD k 0 : Nat) : Int) < (x : Int)) = false := decide_eq_false (by omega)
        have HP := Lib.hid (place_mid hkl Hlo.out hx)
        have HI := Lib.hid (place_is HU.out HP.out hkl)
        have hbe : ((((l.getD k 0 : Nat) : Int) == (x : Int))) = decide (l.getD k 0 = x) := by
          rw [show (((l.getD k 0 : Nat) : Int) == (x : Int)) = decide (((l.getD k 0 : Nat) : Int) = (x : Int)) from rfl]
          exact decide_eq_decide.2 (by omega)
        have hI := HI.out
        clear HI hkl
        generalize l.getD k 0 = z at *
        generalize hd : decide (z = x) = d at *
        have HI := Lib.hid hI
        clear hI
        go_wp2
        go_quiet (fail)
        go_wp2
        go_ret2
        exact ⟨⟨k, by rw [HI.out]; simp, HP.out⟩, below_drewN (Below.refl _ _) _⟩
    · obtain rfl : n = k := by omega
      have hdn : decide ((n : Int) < (n : Int)) = false := decide_eq_false (by omega)
      have HP := Lib.hid (place_end HN.out hlo)
      have HI := Lib.hid (place_no HU.out HP.out (by rw [← HN.out]; omega))
      clear hlo
      go_wp2
      go_quiet (fail)
      go_wp2
      go_ret2
      exact ⟨⟨n, by rw [HI.out]; simp, HP.out⟩, below_drewN (Below.refl _ _) _⟩
theorem info27 : (Tryd.prog.info? 3).map (fun i => (i.zero, i.size, i.bytes)) = some (some (.int .i64 0), 1, 8) := by kernel_rfl
theorem put_row (l : List Nat) (k x : Nat) : encN .i64 (l.take k ++ x :: l.drop k) = encN .i64 (l.take k) ++ (#[Value.int .i64 (x : Int)] : Array Value).toList ++ encN .i64 (l.drop k) := by
  rw [encN_append]; simp [encN]
set_option maxRecDepth 100000 in
set_option maxHeartbeats 1000000 in
theorem put_any (v : Value) (l : List Nat) (k x : Nat) (w : World) (h : Reads w 1 v l.length (encN .i64 l)) (hk : k ≤ l.length) (hl : l.length ≤ 1048576) :
    Calls Tryd.prog 40 #[v, .int .i64 k, .int .i64 x] w fun e w' => ∃ v', e = .returned v' ∧ w'.ownsRow w.heap.size 3 1 v' (l.take k ++ x :: l.drop k).length (encN .i64 (l.take k ++ x :: l.drop k)) ∧ Below w.heap.size w w' := by
  obtain ⟨i0, hi, hz0, hz1, hz2⟩ := info_parts info27
  obtain ⟨r, hr⟩ : ∃ r, r = l.take k ++ x :: l.drop k := ⟨_, rfl⟩
  rw [← hr]
  have Hr := Lib.hid hr
  clear hr
  have HR := Lib.hid h
  obtain ⟨a, cap, rfl, hll, hlc, hcm, hnil, hp⟩ := h
  have hcL : cap ≤ 9223372036854775807 := by unfold maxLen at hcm; omega
  have hki : (k : Int) ≤ (l.length : Int) := by omega
  have hkc : (k : Int) ≤ (cap : Int) := by omega
  have Hone := Lib.hid (encN_one .i64)
  cases a with
  | none =>
    obtain rfl := hnil rfl
    obtain rfl : l = [] := List.eq_nil_of_length_eq_zero (by omega)
    obtain rfl : k = 0 := by simpa using hk
    have HT := Lib.hid (Reads.nil w 1)
    clear hp hnil hcm hll
    go_enter Tryd.func40, Tryd.ntmps40
    go_wp2_with (first
      | ((with_reducible refine wpList_append1 (o := ⟨some 16, .call { callee := .builtin .append, args := #[.tmp 13, .tmp 15], argTypes := #[42, 42] }, _, _, _, none⟩) rfl _ _ 42 rfl 3 i0 (.int .i64 0) 1 8 Tryd.underlying42 hi hz0 hz1 hz2 ?_ ?_ _ _ _ (World.ownsRow_nil _ _ _ _) _ _ ?_ ?_ ?_ ?_ ?_ ?_ ?_); rfl; decide; rfl; rfl; rfl; (simp [Value.oneCell']); (unfold maxLen; omega); omega; intro gb vc2 w2 o2 g2 hl2; simp only [Nat.zero_add, List.nil_append] at o2)
      | ((with_reducible refine wpList_append_reads (o := ⟨some 21, .call { callee := .builtin .append, args := #[.tmp 17, .tmp 20], argTypes := #[42, 42] }, _, _, _, none⟩) rfl _ _ 42 rfl 3 i0 (.int .i64 0) 1 8 Tryd.underlying42 hi hz0 hz1 hz2 ?_ ?_ _ _ _ ?_ o2 _ _ _ ?_ (Reads.nil _ 1) (by simp) ?_ ?_ ?_); rfl; decide; rfl; rfl; (unfold maxLen; omega); omega; intro v3 w3 o3 g3))
    refine bodyPost_ret (v := v3) (by simp [results, Tryd.results40, go_sem]) rfl ⟨_, rfl, ?_, (g2.trans g3).bel⟩
    have ho := own_from o3 (B := w.heap.size) (fun g e => by
      rcases (g2.trans g3).2 g e with h' | h'
      · cases h'
      · exact h')
    rw [Hr.out]
    exact ho
  | some ad =>
    have HT := Lib.hid (part_take k HR.out hk)
    clear hp hnil hcm hll
    by_cases hck : cap = k
    · obtain rfl : cap = l.length := by omega
      subst hck
      go_enter Tryd.func40, Tryd.ntmps40
      go_wp2_with (first
        | ((with_reducible refine wpList_append_reads (o := ⟨some 12, .call { callee := .builtin .append, args := #[.tmp 8, .tmp 11], argTypes := #[42, 42] }, _, _, _, none⟩) rfl _ _ 42 rfl 3 i0 (.int .i64 0) 1 8 Tryd.underlying42 hi hz0 hz1 hz2 ?_ ?_ _ _ _ ?_ (World.ownsRow_nil _ _ _ _) _ _ _ ?_ HT.out (Hone.out _) ?_ ?_ ?_); rfl; decide; rfl; rfl; (unfold maxLen; omega); omega; intro v1 w1 o1 g1; rw [Nat.zero_add, List.nil_append] at o1; obtain ⟨va, vc, rfl, -, -, -⟩ := own_sl o1)
        | ((with_reducible refine wpList_append1 (o := ⟨some 16, .call { callee := .builtin .append, args := #[.tmp 13, .tmp 15], argTypes := #[42, 42] }, _, _, _, none⟩) rfl _ _ 42 rfl 3 i0 (.int .i64 0) 1 8 Tryd.underlying42 hi hz0 hz1 hz2 ?_ ?_ _ _ _ o1 _ _ ?_ ?_ ?_ ?_ ?_ ?_ ?_); rfl; decide; rfl; rfl; rfl; (simp [Value.oneCell']); (unfold maxLen; omega); omega; intro gb vc2 w2 o2 g2 hl2; obtain ⟨_, _, e9, hvc, -, -⟩ := own_sl o2; cases e9)
        | ((with_reducible refine wpList_append_reads (o := ⟨some 21, .call { callee := .builtin .append, args := #[.tmp 17, .tmp 20], argTypes := #[42, 42] }, _, _, _, none⟩) rfl _ _ 42 rfl 3 i0 (.int .i64 0) 1 8 Tryd.underlying42 hi hz0 hz1 hz2 ?_ ?_ _ _ _ ?_ o2 _ _ _ ?_ (reads_zero _ _) (by simp) ?_ ?_ ?_); rfl; decide; rfl; rfl; (unfold maxLen; omega); omega; intro v3 w3 o3 g3))
      refine bodyPost_ret (v := .slice (some ⟨gb, 0, none⟩) (l.length + 1) vc2) (by simp [results, Tryd.results40, go_sem]) rfl ⟨_, rfl, ?_, (g1.trans g2).bel⟩
      have ho := own_from o2 (B := w.heap.size) (fun g e => by
        rcases (g1.trans g2).2 g e with h' | h'
        · cases h'
        · exact h')
      rw [Hr.out, put_row, put_len _ _ hk, List.drop_length, Nat.sub_self]
      simpa [encN] using ho
    · have HD := Lib.hid (part_drop (ad2 := ad.add k) (cap2 := cap - k) k HR.out hk (by omega) (fun _ => rfl))
      go_enter Tryd.func40, Tryd.ntmps40
      go_wp2_with (first
        | ((with_reducible refine wpList_append_reads (o := ⟨some 12, .call { callee := .builtin .append, args := #[.tmp 8, .tmp 11], argTypes := #[42, 42] }, _, _, _, none⟩) rfl _ _ 42 rfl 3 i0 (.int .i64 0) 1 8 Tryd.underlying42 hi hz0 hz1 hz2 ?_ ?_ _ _ _ ?_ (World.ownsRow_nil _ _ _ _) _ _ _ ?_ HT.out (Hone.out _) ?_ ?_ ?_); rfl; decide; rfl; rfl; (unfold maxLen; omega); omega; intro v1 w1 o1 g1; rw [Nat.zero_add, List.nil_append] at o1; obtain ⟨va, vc, rfl, -, -, -⟩ := own_sl o1)
        | ((with_reducible refine wpList_append1 (o := ⟨some 16, .call { callee := .builtin .append, args := #[.tmp 13, .tmp 15], argTypes := #[42, 42] }, _, _, _, none⟩) rfl _ _ 42 rfl 3 i0 (.int .i64 0) 1 8 Tryd.underlying42 hi hz0 hz1 hz2 ?_ ?_ _ _ _ o1 _ _ ?_ ?_ ?_ ?_ ?_ ?_ ?_); rfl; decide; rfl; rfl; rfl; (simp [Value.oneCell']); (unfold maxLen; omega); omega; intro gb vc2 w2 o2 g2 hl2; have HD2 := Lib.hid (HD.out.below (g1.trans g2).bel))
        | ((with_reducible refine wpList_append_reads (o := ⟨some 21, .call { callee := .builtin .append, args := #[.tmp 17, .tmp 20], argTypes := #[42, 42] }, _, _, _, none⟩) rfl _ _ 42 rfl 3 i0 (.int .i64 0) 1 8 Tryd.underlying42 hi hz0 hz1 hz2 ?_ ?_ _ _ _ ?_ o2 _ _ _ ?_ HD2.out (Hone.out _) ?_ ?_ ?_); rfl; decide; rfl; rfl; (unfold maxLen; omega); omega; intro v3 w3 o3 g3))
      refine bodyPost_ret (v := v3) (by simp [results, Tryd.results40, go_sem]) rfl ⟨_, rfl, ?_, (g1.trans (g2.trans g3)).bel⟩
      have ho := own_from o3 (B := w.heap.size) (fun g e => by
        rcases (g1.trans (g2.trans g3)).2 g e with h' | h'
        · cases h'
        · exact h')
      rw [Hr.out, put_row, put_len _ _ hk]
      exact ho
set_option maxRecDepth 100000 in
set_option maxHeartbeats 1000000 in
theorem samewords_any (v u : Value) (l m : List Nat) (w : World) (h1 : Reads w 1 v l.length (encN .i64 l)) (h2 : Reads w 1 u m.length (encN .i64 m)) :
    Calls Tryd.prog 16 #[v, u] w fun e w' => e = .returned (.bool (decide (l = m))) ∧ Below w.heap.size w w' := by
  obtain ⟨a1, c1, rfl, hl1, hm1, hn1, hp1⟩ := reads_opened h1
  obtain ⟨a2, c2, rfl, hl2, hm2, hn2, hp2⟩ := reads_opened h2
  have hnL : l.length ≤ 9223372036854775807 := by unfold maxLen at hm1; omega
  have hmL : m.length ≤ 9223372036854775807 := by unfold maxLen at hm2; omega
  have Hp1 := Lib.hid hp1
  have Hp2 := Lib.hid hp2
  obtain ⟨n, hn⟩ : ∃ n, n = l.length := ⟨_, rfl⟩
  have HN := Lib.hid hn
  obtain ⟨n2, hn'⟩ : ∃ n2, n2 = m.length := ⟨_, rfl⟩
  have HN2 := Lib.hid hn'
  rw [← hn] at hl1 hnL ⊢
  rw [← hn'] at hl2 hmL ⊢
  obtain ⟨d, hd⟩ : ∃ d, d = decide (l = m) := ⟨_, rfl⟩
  have HD := Lib.hid hd
  rw [← hd]
  clear h1 h2 hp1 hp2 hm1 hm2 hn1 hn2 hn hn' hd
  by_cases hlen : n = n2
  · subst hlen
    go_enter Tryd.func16, Tryd.ntmps16
    go_wp2
    go_loopw [5] (fun i wr => ∃ k : Nat, k ≤ n ∧ i = .int .i64 k ∧ (∀ j, j < k → l.getD j 0 = m.getD j 0) ∧ Below w.heap.size w wr) (fun i _ => n - (intOf i).toNat)
    case atStart => exact ⟨0, by omega, rfl, fun j h => absurd h (Nat.not_lt_zero _), Below.refl _ _⟩
    case round =>
      obtain ⟨k, hk, rfl, hlo, hb⟩ := hrel
      by_cases hlt : k < n
      · obtain ⟨b1, off1, rfl, hb1, hc1⟩ := Hp1.out (by rw [← HN.out]; omega)
        obtain ⟨b2, off2, rfl, hb2, hc2⟩ := Hp2.out (by rw [← HN2.out]; omega)
        have hk1 := (hb.cell (p := ⟨b1, off1 + k, none⟩) hb1).trans (hc1 k (by rw [← HN.out]; exact hlt))
        have hk2 := (hb.cell (p := ⟨b2, off2 + k, none⟩) hb2).trans (hc2 k (by rw [← HN2.out]; exact hlt))
        have hki : (k : Int) < (n : Int) := by omega
        have hk0 : (0 : Int) ≤ (k : Int) := by omega
        have Hlo := Lib.hid hlo
        have Hb := Lib.hid hb
        clear hc1 hc2 hlo hb
        by_cases hx : l.getD k 0 = m.getD k 0
        · have Hnext := Lib.hid (show ∀ j, j < k + 1 → l.getD j 0 = m.getD j 0 from fun j hj => by
            rcases Nat.lt_or_eq_of_le (Nat.le_of_lt_succ hj) with e | e
            · exact Hlo.out j e
            · rw [e]; exact hx)
          rw [← hx] at hk2
          generalize l.getD k 0 = z at *
          go_wp2_with fail
          go_quiet (fail)
          go_wp2
          go_roundw
          case rel => exact ⟨k + 1, by omega, by go_num, Hnext.out, below_drewN Hb.out _⟩
          case measure => simp [intOf]; omega
        · have Hne := Lib.hid (list_ne hx)
          have hxd : (((l.getD k 0 : Nat) : Int) != ((m.getD k 0 : Nat) : Int)) = true := bne_iff_ne.2 (fun e => hx (Int.ofNat.inj e))
          generalize l.getD k 0 = z at *
          generalize m.getD k 0 = y at *
          go_wp2_with fail
          go_quiet (fail)
          go_wp2
          go_ret
          exact ⟨by rw [HD.out, Hne.out]; simp, below_drewN Hb.out _⟩
      · obtain rfl : n = k := by omega
        have HE := Lib.hid (list_eq (by rw [← HN.out, ← HN2.out]) (fun j hj => hlo j (by rw [HN.out]; exact hj)))
        have Hb := Lib.hid hb
        clear hlo hb
        go_wp2
        go_ret
        exact ⟨by rw [HD.out, HE.out]; simp, Hb.out⟩
  · have HE := Lib.hid (show decide (l = m) = false from decide_eq_false (fun e => hlen (by rw [HN.out, HN2.out, e])))
    have hne : ((n : Int) != (n2 : Int)) = true := by simp; omega
    go_enter Tryd.func16, Tryd.ntmps16
    go_wp2
    go_ret
    exact ⟨by rw [HD.out, HE.out]; simp, Below.refl _ _⟩
end Go.Proofs.YtofkamnmgpkehaaDoor.I
