import Derived.Test.YtofkamnmgpkehabProcs1
import Derived.Test.YtofkamnmgpkehabAim
/- slices.BinarySearch of words; procs.Legal. -/
namespace Go.Proofs.Ytofkamnmgpkehab
open Go.RowKit
set_option maxRecDepth 100000 in
theorem nanC_any (x : Int) (w : World) : Calls Try.prog 55 #[.int .u32 x] w fun e w' => e = .returned (.bool false) ∧ w' = w := by
  go_enter Try.func55, Try.ntmps55
  go_wp2
  go_ret
  exact ⟨by simp, rfl⟩
set_option maxRecDepth 100000 in
theorem nanS_any (x : Int) (w : World) : Calls Try.prog 45 #[.int .u32 x] w fun e w' => e = .returned (.bool false) ∧ w' = w := by
  go_enter Try.func45, Try.ntmps45
  go_wp2
  go_ret
  exact ⟨by simp, rfl⟩
set_option maxRecDepth 100000 in
theorem less_any (x y : Nat) (w : World) : Calls Try.prog 44 #[.int .u32 x, .int .u32 y] w fun e w' => e = .returned (.bool (decide (x < y))) ∧ w' = w := by
  go_enter Try.func44, Try.ntmps44
  go_wp2_with (go_at_call 55; refine (nanC_any _ _).mono ?_; rintro e w' ⟨rfl, rfl⟩)
  go_ret
  exact ⟨by simp, rfl⟩
theorem sorted_le {l : List Nat} (h : l.Pairwise (· < ·)) : ∀ a b, a ≤ b → b < l.length → l.getD a 0 ≤ l.getD b 0 := by
  intro a b hab hb
  rcases Nat.lt_or_eq_of_le hab with h1 | rfl
  · have := List.pairwise_iff_getElem.1 h a b (by omega) hb h1
    rw [List.getD_eq_getElem?_getD, List.getD_eq_getElem?_getD, List.getElem?_eq_getElem (by omega), List.getElem?_eq_getElem hb]
    exact Nat.le_of_lt this
  · exact Nat.le_refl _
theorem contains_at {l : List Nat} {i x : Nat} (hi : i ≤ l.length) (h1 : ∀ j, j < i → l.getD j 0 < x) (h2 : ∀ j, i ≤ j → j < l.length → x ≤ l.getD j 0) (hs : ∀ a b, a ≤ b → b < l.length → l.getD a 0 ≤ l.getD b 0) :
    decide (x ∈ l) = decide (i < l.length ∧ l.getD i 0 = x) := by
  have key : x ∈ l ↔ (i < l.length ∧ l.getD i 0 = x) := by
    constructor
    · intro hx
      obtain ⟨j, hj, e⟩ := List.getElem_of_mem hx
      have ej : l.getD j 0 = x := by rw [List.getD_eq_getElem?_getD, List.getElem?_eq_getElem hj]; exact e
      have hij : i ≤ j := by
        rcases Nat.lt_or_ge j i with h | h
        · have := h1 j h; omega
        · exact h
      have hil : i < l.length := by omega
      have := h2 i (Nat.le_refl _) hil
      have := hs i j hij hj
      exact ⟨hil, by omega⟩
    · rintro ⟨hil, e⟩
      rw [← e, List.getD_eq_getElem?_getD, List.getElem?_eq_getElem hil]
      exact List.getElem_mem hil
  exact decide_eq_decide.2 key
set_option maxRecDepth 100000 in
set_option maxHeartbeats 4000000 in
theorem search_any {w : World} {B : Nat} {v : Value} {l : List Nat} (h : w.ownsRow B 32 1 v l.length (encN .u32 l)) (hso : l.Pairwise (· < ·)) (hl16 : l.length ≤ 16384) (x : Nat) :
    Calls Try.prog 31 #[v, .int .u32 x] w fun e w' => (∃ p : Nat, e = .returned (.tuple #[.int .i64 p, .bool (decide (x ∈ l))])) ∧ w' = w := by
  obtain ⟨a, c, rfl, hnc, hcm, hp⟩ := own_sl h
  have hbig : l.length ≤ 16384 := hl16
  clear hl16
  have S := Lib.hid (sorted_le hso)
  have Hp := Lib.hid hp
  clear hp hso h
  obtain ⟨n, hnn⟩ : ∃ n, n = l.length := ⟨_, rfl⟩
  have HN := Lib.hid hnn
  rw [← hnn] at hnc hbig ⊢
  clear hnn
  go_enter Try.func31, Try.ntmps31
  go_wp2
  go_loopg [7, 8] n (fun g s7 s8 wr => ∃ lo hi : Nat, s7 = .int .i64 lo ∧ s8 = .int .i64 hi ∧ lo ≤ hi ∧ hi ≤ n ∧ hi - lo ≤ g ∧ wr = w ∧ (∀ t, t < lo → l.getD t 0 < x) ∧ (∀ t, hi ≤ t → t < n → x ≤ l.getD t 0))
  case atStart => exact ⟨0, n, rfl, rfl, Nat.zero_le _, Nat.le_refl _, by omega, rfl, fun t ht => absurd ht (Nat.not_lt_zero _), fun t h1 h2 => by omega⟩
  case round =>
    obtain ⟨lo, hi, rfl, rfl, hlh, hin, hg, rfl, h1, h2⟩ := hrel
    have I := Lib.hid (show (∀ t, t < lo → l.getD t 0 < x) ∧ (∀ t, hi ≤ t → t < n → x ≤ l.getD t 0) from ⟨h1, h2⟩)
    clear h1 h2
    by_cases hlt : lo < hi
    · obtain ⟨b, rfl, hb, hc⟩ := Hp.out (by rw [← HN.out]; omega)
      have cm := hc ((lo + hi) / 2) (by rw [encN_length, ← HN.out]; omega)
      rw [encN_at _ _ _ (by rw [← HN.out]; omega)] at cm
      clear hc
      obtain ⟨y, hy⟩ : ∃ y, y = l.getD ((lo + hi) / 2) 0 := ⟨_, rfl⟩
      rw [← hy] at cm
      have Y := Lib.hid hy
      clear hy
      have SS := S.out
      rw [← HN.out] at SS
      by_cases hyx : y < x
      · have hd := decide_eq_true hyx
        have S2 := Lib.hid SS
        clear SS
        go_wp2_with (go_at_call 44; refine (less_any _ _ _).mono ?_; rintro e w' ⟨rfl, rfl⟩)
        go_roundg (hi - ((lo + hi) / 2 + 1))
        case measure => omega
        case rel =>
          refine ⟨(lo + hi) / 2 + 1, hi, by rw [show ((lo : Int) + (hi : Int)) / 2 + 1 = (((lo + hi) / 2 + 1 : Nat) : Int) by omega], rfl, by omega, hin, Nat.le_refl _, rfl, fun t ht => ?_, I.out.2⟩
          have := S2.out t ((lo + hi) / 2) (by omega) (by omega)
          rw [← Y.out] at this
          omega
      · have hd := decide_eq_false hyx
        have S2 := Lib.hid SS
        clear SS
        go_wp2_with (go_at_call 44; refine (less_any _ _ _).mono ?_; rintro e w' ⟨rfl, rfl⟩)
        go_roundg ((lo + hi) / 2 - lo)
        case measure => omega
        case rel =>
          refine ⟨lo, (lo + hi) / 2, rfl, by rw [show ((lo : Int) + (hi : Int)) / 2 = (((lo + hi) / 2 : Nat) : Int) by omega], by omega, by omega, Nat.le_refl _, rfl, I.out.1, fun t ht htn => ?_⟩
          have := S2.out ((lo + hi) / 2) t ht htn
          rw [← Y.out] at this
          omega
    · have : hi = lo := by omega
      subst this
      have E := Lib.hid (contains_at (l := l) (i := hi) (x := x) (by rw [← HN.out]; exact hin) I.out.1 (fun j h1 h2 => I.out.2 j h1 (by rw [HN.out]; exact h2)) S.out)
      by_cases hn : hi < n
      · obtain ⟨b, rfl, hb, hc⟩ := Hp.out (by rw [← HN.out]; omega)
        have cl := hc hi (by rw [encN_length, ← HN.out]; omega)
        rw [encN_at _ _ _ (by rw [← HN.out]; omega)] at cl
        clear hc
        obtain ⟨y, hy⟩ : ∃ y, y = l.getD hi 0 := ⟨_, rfl⟩
        rw [← hy] at cl
        have Y := Lib.hid hy
        clear hy
        by_cases hyx : y = x
        · have hd : ((y : Int) == (x : Int)) = true := by simp; omega
          go_wp2_with (go_at_call 45; refine (nanS_any _ _).mono ?_; rintro e w' ⟨rfl, rfl⟩)
          exact bodyPost_ret (v := .tuple #[.int .i64 (hi : Nat), .bool (decide (x ∈ l))]) (by rw [E.out, ← Y.out, decide_eq_true ⟨by rw [← HN.out]; exact hn, hyx⟩]; simp [results, Try.results31, go_sem]) rfl ⟨⟨_, rfl⟩, rfl⟩
        · have hd : ((y : Int) == (x : Int)) = false := by simp; omega
          go_wp2_with (go_at_call 45; refine (nanS_any _ _).mono ?_; rintro e w' ⟨rfl, rfl⟩)
          exact bodyPost_ret (v := .tuple #[.int .i64 (hi : Nat), .bool (decide (x ∈ l))]) (by rw [E.out, ← Y.out, decide_eq_false (fun h => hyx h.2)]; simp [results, Try.results31, go_sem]) rfl ⟨⟨_, rfl⟩, rfl⟩
      · have hd : ¬ (hi : Int) < (n : Int) := by omega
        go_wp2_with (go_at_call 45; refine (nanS_any _ _).mono ?_; rintro e w' ⟨rfl, rfl⟩)
        exact bodyPost_ret (v := .tuple #[.int .i64 (hi : Nat), .bool (decide (x ∈ l))]) (by rw [E.out, decide_eq_false (fun h => hn (by rw [HN.out]; exact h.1))]; simp [results, Try.results31, go_sem]) rfl ⟨⟨_, rfl⟩, rfl⟩
set_option maxRecDepth 100000 in
set_option maxHeartbeats 1000000 in
/-- Legal: the target is in the list of the procedure that holds the jump. -/
theorem legal_any {w : World} {B b : Nat} {vp vo vt : Value} {ps : List (Nat × Nat × Nat)} {ofs : List Nat} {us : List Value} {ts : List (List Nat)} (h : PAt w B b vp vo vt ps ofs us ts) (hof : ∀ x, x < ofs.length → ofs.getD x 0 < ts.length)
    (hso : ∀ j, (ts.getD j []).Pairwise (· < ·)) (hln : ∀ j, (ts.getD j []).length ≤ 16384) (x y : Nat) (hx : x < 4294967296) :
    Calls Try.prog 13 #[.pointer (some ⟨b, 0, none⟩), .int .u32 x, .int .u32 y] w fun e w' => e = .returned (.bool (decide (x < ofs.length) && decide (y ∈ ts.getD (ofs.getD x 0) []))) ∧ w' = w := by
  have h1 := of_any h x hx
  unfold ofN at h1
  by_cases hlt : x < ofs.length
  · rw [if_pos hlt] at h1
    have hr := hof x hlt
    have hc2 := h.c2
    have hul : us.length = ts.length := h.ul
    obtain ⟨q, cv, hvt, -, -⟩ := own_start h.ot (by omega)
    subst hvt
    obtain ⟨u, hu⟩ : ∃ u, us[ofs.getD x 0]? = some u := ⟨_, List.getElem?_eq_getElem (by omega)⟩
    have hqc : w.cell? ⟨q, ofs.getD x 0, none⟩ = some u := by rw [h.ot.cellAt (ofs.getD x 0) (by omega)]; exact hu
    have hl2 : ts[ofs.getD x 0]? = some (ts.getD (ofs.getD x 0) []) := getD_at _ _ _ hr
    have hou := h.ou (ofs.getD x 0) u _ hu hl2
    have hs := search_any hou (hso _) (hln _) y
    rw [hul] at hc2
    have hd0 : decide (x < ofs.length) = true := decide_eq_true hlt
    rw [hd0]
    generalize ofs.getD x 0 = r at *
    generalize decide (y ∈ ts.getD r []) = bv at *
    have H1 := Lib.hid h1
    have H2 := Lib.hid hs
    have hr0 : (0 : Int) ≤ (r : Int) := by omega
    have hr1 : (r : Int) < (ts.length : Int) := by omega
    clear h h1 hs hof hou hl2 hu hul hso hln hd0
    go_enter Try.func13, Try.ntmps13
    go_wp2_with fail
    refine H1.out.mono ?_
    rintro e w1 ⟨rfl, rfl⟩
    go_wp2_with fail
    refine H2.out.mono ?_
    rintro e w2 ⟨⟨p, rfl⟩, rfl⟩
    clear H1 H2
    go_wp2
    go_ret
    exact ⟨by simp, rfl⟩
  · rw [if_neg hlt] at h1
    have hd0 : decide (x < ofs.length) = false := decide_eq_false hlt
    rw [hd0]
    have H1 := Lib.hid h1
    clear h h1 hof hso hln hd0
    go_enter Try.func13, Try.ntmps13
    go_wp2_with fail
    refine H1.out.mono ?_
    rintro e w1 ⟨rfl, rfl⟩
    clear H1
    go_wp2
    go_ret
    exact ⟨by simp, rfl⟩
end Go.Proofs.Ytofkamnmgpkehab
