import Derived.Test.YtofkamnmgpkehaaDoorWrd1
/- The law's lists of words: with one more. -/
namespace Go.Proofs.YtofkamnmgpkehaaDoor
open Go.RowKit
attribute [local go_sem] Oper.semAt_some
theorem info27 : (Tryd.prog.info? 27).map (fun i => (i.zero, i.size, i.bytes)) = some (some (.int .u32 0), 1, 4) := by kernel_rfl
theorem part_take {K : IntKind} {w : World} {l : List Nat} {ad : Addr} {cap : Nat} (k : Nat) (h : Reads w 1 (.slice (some ad) l.length cap) l.length (encN K l)) (hk : k ≤ l.length) : Reads w 1 (.slice (some ad) k cap) k (encN K (l.take k)) := by
  obtain ⟨a, c, e, hll, hlc, hcm, hnil, hp⟩ := h
  cases e
  refine ⟨some ad, cap, rfl, by rw [encN_length, List.length_take]; omega, by omega, hcm, (fun h => by cases h), fun h0 => ?_⟩
  obtain ⟨b, off, e, hb, hc⟩ := hp (by omega)
  refine ⟨b, off, e, hb, fun j hj => ?_⟩
  rw [encN_length, List.length_take] at hj
  rw [hc j (by rw [encN_length]; omega), encN_at _ _ _ (by omega), encN_at _ _ _ (by rw [List.length_take]; omega)]
  rw [getD_eq (by omega), getD_eq (by rw [List.length_take]; omega), List.getElem_take]
theorem part_drop {K : IntKind} {w : World} {l : List Nat} {ad ad2 : Addr} {cap cap2 : Nat} (k : Nat) (h : Reads w 1 (.slice (some ad) l.length cap) l.length (encN K l)) (hk : k ≤ l.length) (hc2 : l.length - k ≤ cap2 ∧ cap2 ≤ cap) (ha : k < l.length → ad2 = ad.add k) :
    Reads w 1 (.slice (some ad2) (l.length - k) cap2) (l.length - k) (encN K (l.drop k)) := by
  obtain ⟨a, c, e, hll, hlc, hcm, hnil, hp⟩ := h
  cases e
  refine ⟨some ad2, cap2, rfl, by rw [encN_length, List.length_drop]; omega, hc2.1, by omega, (fun h => by cases h), fun h0 => ?_⟩
  obtain ⟨b, off, e, hb, hc⟩ := hp (by omega)
  cases e
  refine ⟨b, off + k, by rw [ha (by omega), Addr.add_mid], hb, fun j hj => ?_⟩
  rw [encN_length, List.length_drop] at hj
  rw [Nat.add_assoc, hc (k + j) (by rw [encN_length]; omega), encN_at _ _ _ (by omega), encN_at _ _ _ (by rw [List.length_drop]; omega)]
  rw [getD_eq (by omega), getD_eq (by rw [List.length_drop]; omega), List.getElem_drop]
theorem reads_zero (w : World) (ad : Addr) : Reads w 1 (.slice (some ad) 0 0) 0 [] := ⟨some ad, 0, rfl, rfl, Nat.le_refl _, Nat.zero_le _, (fun _ => rfl), fun h => absurd h (Nat.lt_irrefl _)⟩
theorem put_row (l : List Nat) (k x : Nat) : encN .u32 (l.take k ++ x :: l.drop k) = encN .u32 (l.take k) ++ (#[Value.int .u32 (x : Int)] : Array Value).toList ++ encN .u32 (l.drop k) := by
  rw [encN_append]; simp [encN]
theorem put_len (l : List Nat) (x : Nat) {k : Nat} (hk : k ≤ l.length) : (l.take k ++ x :: l.drop k).length = k + 1 + (l.length - k) := by
  rw [List.length_append, List.length_cons, List.length_take, List.length_drop]; omega
set_option maxRecDepth 100000 in
set_option maxHeartbeats 1000000 in
theorem put_any (v : Value) (l : List Nat) (k x : Nat) (w : World) (h : Reads w 1 v l.length (encN .u32 l)) (hk : k ≤ l.length) (hl : l.length ≤ 1048576) :
    Calls Tryd.prog 37 #[v, .int .i64 k, .int .u32 x] w fun e w' => ∃ v', e = .returned v' ∧ w'.ownsRow w.heap.size 27 1 v' (l.take k ++ x :: l.drop k).length (encN .u32 (l.take k ++ x :: l.drop k)) ∧ Below w.heap.size w w' := by
  obtain ⟨i0, hi, hz0, hz1, hz2⟩ := info_parts info27
  obtain ⟨r, hr⟩ : ∃ r, r = l.take k ++ x :: l.drop k := ⟨_, rfl⟩
  rw [← hr]
  have Hr := Lib.hid hr
  clear hr
  have HR := Lib.hid h
  obtain ⟨a, cap, rfl, hll, hlc, hcm, hnil, hp⟩ := h
  have hcL : cap ≤ 9223372036854775807 := by unfold maxLen at hcm; omega
  have hki : (k : Int) ≤ (l.length : Int) := by omega
  have hkc : (k : Int) ≤ (cap : Int) := by omega
  have Hone := Lib.hid (encN_one .u32)
  cases a with
  | none =>
    obtain rfl := hnil rfl
    obtain rfl : l = [] := List.eq_nil_of_length_eq_zero (by omega)
    obtain rfl : k = 0 := by simpa using hk
    have HT := Lib.hid (Reads.nil w 1)
    clear hp hnil hcm hll
    go_enter Tryd.func37, Tryd.ntmps37
    go_wp2_with (first
      | ((with_reducible refine wpList_append1 (o := ⟨some 16, .call { callee := .builtin .append, args := #[.tmp 13, .tmp 15], argTypes := #[28, 28] }, _, _, _, none⟩) rfl _ _ 28 rfl 27 i0 (.int .u32 0) 1 4 Tryd.underlying28 hi hz0 hz1 hz2 ?_ ?_ _ _ _ (World.ownsRow_nil _ _ _ _) _ _ ?_ ?_ ?_ ?_ ?_ ?_ ?_); rfl; decide; rfl; rfl; rfl; (simp [Value.oneCell']); (unfold maxLen; omega); omega; intro gb vc2 w2 o2 g2 hl2; simp only [Nat.zero_add, List.nil_append] at o2)
      | ((with_reducible refine wpList_append_reads (o := ⟨some 21, .call { callee := .builtin .append, args := #[.tmp 17, .tmp 20], argTypes := #[28, 28] }, _, _, _, none⟩) rfl _ _ 28 rfl 27 i0 (.int .u32 0) 1 4 Tryd.underlying28 hi hz0 hz1 hz2 ?_ ?_ _ _ _ ?_ o2 _ _ _ ?_ (Reads.nil _ 1) (by simp) ?_ ?_ ?_); rfl; decide; rfl; rfl; (unfold maxLen; omega); omega; intro v3 w3 o3 g3))
    refine bodyPost_ret (v := v3) (by simp [results, Tryd.results37, go_sem]) rfl ⟨_, rfl, ?_, (g2.trans g3).bel⟩
    have ho := own_from o3 (B := w.heap.size) (fun g e => by
      rcases (g2.trans g3).2 g e with h' | h'
      · cases h'
      · exact h')
    rw [Hr.out]
    exact ho
  | some ad =>
    have HT := Lib.hid (part_take k HR.out hk)
    clear hp hnil hcm hll
    by_cases hck : cap = k
    · obtain rfl : cap = l.length := by omega
      subst hck
      go_enter Tryd.func37, Tryd.ntmps37
      go_wp2_with (first
        | ((with_reducible refine wpList_append_reads (o := ⟨some 12, .call { callee := .builtin .append, args := #[.tmp 8, .tmp 11], argTypes := #[28, 28] }, _, _, _, none⟩) rfl _ _ 28 rfl 27 i0 (.int .u32 0) 1 4 Tryd.underlying28 hi hz0 hz1 hz2 ?_ ?_ _ _ _ ?_ (World.ownsRow_nil _ _ _ _) _ _ _ ?_ HT.out (Hone.out _) ?_ ?_ ?_); rfl; decide; rfl; rfl; (unfold maxLen; omega); omega; intro v1 w1 o1 g1; rw [Nat.zero_add, List.nil_append] at o1; obtain ⟨va, vc, rfl, -, -, -⟩ := own_sl o1)
        | ((with_reducible refine wpList_append1 (o := ⟨some 16, .call { callee := .builtin .append, args := #[.tmp 13, .tmp 15], argTypes := #[28, 28] }, _, _, _, none⟩) rfl _ _ 28 rfl 27 i0 (.int .u32 0) 1 4 Tryd.underlying28 hi hz0 hz1 hz2 ?_ ?_ _ _ _ o1 _ _ ?_ ?_ ?_ ?_ ?_ ?_ ?_); rfl; decide; rfl; rfl; rfl; (simp [Value.oneCell']); (unfold maxLen; omega); omega; intro gb vc2 w2 o2 g2 hl2; obtain ⟨_, _, e9, hvc, -, -⟩ := own_sl o2; cases e9)
        | ((with_reducible refine wpList_append_reads (o := ⟨some 21, .call { callee := .builtin .append, args := #[.tmp 17, .tmp 20], argTypes := #[28, 28] }, _, _, _, none⟩) rfl _ _ 28 rfl 27 i0 (.int .u32 0) 1 4 Tryd.underlying28 hi hz0 hz1 hz2 ?_ ?_ _ _ _ ?_ o2 _ _ _ ?_ (reads_zero _ _) (by simp) ?_ ?_ ?_); rfl; decide; rfl; rfl; (unfold maxLen; omega); omega; intro v3 w3 o3 g3))
      refine bodyPost_ret (v := .slice (some ⟨gb, 0, none⟩) (l.length + 1) vc2) (by simp [results, Tryd.results37, go_sem]) rfl ⟨_, rfl, ?_, (g1.trans g2).bel⟩
      have ho := own_from o2 (B := w.heap.size) (fun g e => by
        rcases (g1.trans g2).2 g e with h' | h'
        · cases h'
        · exact h')
      rw [Hr.out, put_row, put_len _ _ hk, List.drop_length, Nat.sub_self]
      simpa [encN] using ho
    · have HD := Lib.hid (part_drop (ad2 := ad.add k) (cap2 := cap - k) k HR.out hk (by omega) (fun _ => rfl))
      go_enter Tryd.func37, Tryd.ntmps37
      go_wp2_with (first
        | ((with_reducible refine wpList_append_reads (o := ⟨some 12, .call { callee := .builtin .append, args := #[.tmp 8, .tmp 11], argTypes := #[28, 28] }, _, _, _, none⟩) rfl _ _ 28 rfl 27 i0 (.int .u32 0) 1 4 Tryd.underlying28 hi hz0 hz1 hz2 ?_ ?_ _ _ _ ?_ (World.ownsRow_nil _ _ _ _) _ _ _ ?_ HT.out (Hone.out _) ?_ ?_ ?_); rfl; decide; rfl; rfl; (unfold maxLen; omega); omega; intro v1 w1 o1 g1; rw [Nat.zero_add, List.nil_append] at o1; obtain ⟨va, vc, rfl, -, -, -⟩ := own_sl o1)
        | ((with_reducible refine wpList_append1 (o := ⟨some 16, .call { callee := .builtin .append, args := #[.tmp 13, .tmp 15], argTypes := #[28, 28] }, _, _, _, none⟩) rfl _ _ 28 rfl 27 i0 (.int .u32 0) 1 4 Tryd.underlying28 hi hz0 hz1 hz2 ?_ ?_ _ _ _ o1 _ _ ?_ ?_ ?_ ?_ ?_ ?_ ?_); rfl; decide; rfl; rfl; rfl; (simp [Value.oneCell']); (unfold maxLen; omega); omega; intro gb vc2 w2 o2 g2 hl2; have HD2 := Lib.hid (HD.out.below (g1.trans g2).bel))
        | ((with_reducible refine wpList_append_reads (o := ⟨some 21, .call { callee := .builtin .append, args := #[.tmp 17, .tmp 20], argTypes := #[28, 28] }, _, _, _, none⟩) rfl _ _ 28 rfl 27 i0 (.int .u32 0) 1 4 Tryd.underlying28 hi hz0 hz1 hz2 ?_ ?_ _ _ _ ?_ o2 _ _ _ ?_ HD2.out (Hone.out _) ?_ ?_ ?_); rfl; decide; rfl; rfl; (unfold maxLen; omega); omega; intro v3 w3 o3 g3))
      refine bodyPost_ret (v := v3) (by simp [results, Tryd.results37, go_sem]) rfl ⟨_, rfl, ?_, (g1.trans (g2.trans g3)).bel⟩
      have ho := own_from o3 (B := w.heap.size) (fun g e => by
        rcases (g1.trans (g2.trans g3)).2 g e with h' | h'
        · cases h'
        · exact h')
      rw [Hr.out, put_row, put_len _ _ hk]
      exact ho
end Go.Proofs.YtofkamnmgpkehaaDoor
