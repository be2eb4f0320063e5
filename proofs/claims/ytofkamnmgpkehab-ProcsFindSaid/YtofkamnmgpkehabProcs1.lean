import Derived.Test.YtofkamnmgpkehabLent
/- Procedures in memory; Of, Proc, Begins. -/
namespace Go.Proofs.Ytofkamnmgpkehab
open Go.RowKit
/-- Procedures as cells: begin, end, frame (need is 0). -/
def encP (ps : List (Nat × Nat × Nat)) : List Value := ps.flatMap fun p => [.int .u32 p.1, .int .u32 p.2.1, .int .u32 p.2.2, .int .i64 0]
theorem encP_length (ps : List (Nat × Nat × Nat)) : (encP ps).length = ps.length * 4 := by
  induction ps with
  | nil => rfl
  | cons p ps ih => rw [show encP (p :: ps) = [.int .u32 p.1, .int .u32 p.2.1, .int .u32 p.2.2, .int .i64 0] ++ encP ps from rfl, List.length_append, ih]; simp; omega
theorem encP_append (l m : List (Nat × Nat × Nat)) : encP (l ++ m) = encP l ++ encP m := by simp [encP]
theorem encP_at (ps : List (Nat × Nat × Nat)) : ∀ k, k < ps.length → (encP ps)[k * 4]? = some (.int .u32 (ps.getD k (0, 0, 0)).1) ∧ (encP ps)[k * 4 + 1]? = some (.int .u32 (ps.getD k (0, 0, 0)).2.1) ∧
    (encP ps)[k * 4 + 2]? = some (.int .u32 (ps.getD k (0, 0, 0)).2.2) ∧ (encP ps)[k * 4 + 3]? = some (.int .i64 0) := by
  induction ps with
  | nil => intro k h; simp at h
  | cons p ps ih =>
    intro k h
    have e : encP (p :: ps) = [.int .u32 p.1, .int .u32 p.2.1, .int .u32 p.2.2, .int .i64 0] ++ encP ps := rfl
    cases k with
    | zero => rw [e]; exact ⟨rfl, rfl, rfl, rfl⟩
    | succ k =>
      obtain ⟨h1, h2, h3, h4⟩ := ih k (by simpa using h)
      rw [e]
      have f : ∀ t, ([.int .u32 p.1, .int .u32 p.2.1, .int .u32 p.2.2, .int .i64 0] ++ encP ps : List Value)[(k + 1) * 4 + t]? = (encP ps)[k * 4 + t]? := fun t => by
        rw [List.getElem?_append_right (by simp; omega)]; congr 1; simp; omega
      exact ⟨(f 0).trans h1, (f 1).trans h2, (f 2).trans h3, (f 3).trans h4⟩
structure PAt (w : World) (B b : Nat) (vp vo vt : Value) (ps : List (Nat × Nat × Nat)) (ofs : List Nat) (us : List Value) (ts : List (List Nat)) : Prop where
  c0 : w.cell? ⟨b, 0, none⟩ = some vp
  c1 : w.cell? ⟨b, 1, none⟩ = some vo
  c2 : w.cell? ⟨b, 2, none⟩ = some vt
  hb : B ≤ b
  op : w.ownsRow B 39 4 vp ps.length (encP ps)
  oo : w.ownsRow B 3 1 vo ofs.length (encN .i64 ofs)
  ot : w.ownsRow B 23 1 vt us.length us
  ul : us.length = ts.length
  ou : ∀ (j : Nat) (u : Value) (l : List Nat), us[j]? = some u → ts[j]? = some l → w.ownsRow B 32 1 u l.length (encN .u32 l)
theorem PAt.below {w w' : World} {B b : Nat} {vp vo vt : Value} {ps : List (Nat × Nat × Nat)} {ofs : List Nat} {us : List Value} {ts : List (List Nat)} (h : PAt w B b vp vo vt ps ofs us ts) (hb : Below w.heap.size w w') : PAt w' B b vp vo vt ps ofs us ts :=
  have hl := World.block_lt_of_cell? _ _ h.c0
  ⟨(hb.cell (p := ⟨b, 0, none⟩) hl).trans h.c0, (hb.cell (p := ⟨b, 1, none⟩) hl).trans h.c1, (hb.cell (p := ⟨b, 2, none⟩) hl).trans h.c2, h.hb, own_below h.op hb, own_below h.oo hb, own_below h.ot hb, h.ul, fun j u l hu hl => own_below (h.ou j u l hu hl) hb⟩
theorem own_sl {w : World} {B e sz n : Nat} {v : Value} {xs : List Value} (h : w.ownsRow B e sz v n xs) : ∃ a c, v = .slice a n c ∧ n ≤ c ∧ c ≤ maxLen ∧ (0 < n → ∃ g, a = some ⟨g, 0, none⟩ ∧ g < w.heap.size ∧ ∀ j, j < xs.length → w.cell? ⟨g, j, none⟩ = xs[j]?) := by
  rcases h.2 with ⟨rfl, rfl⟩ | ⟨g, cap, cur, rfl, hb, hg, h1, h2, _⟩
  · exact ⟨none, 0, rfl, Nat.le_refl _, Nat.zero_le _, fun h => absurd h (Nat.lt_irrefl _)⟩
  · refine ⟨_, cap, rfl, h1, h2, fun h0 => ?_⟩
    obtain ⟨g', c', e, _, _, hl, hc⟩ := own_form (own_base h) h0
    cases e
    exact ⟨g, rfl, hl, hc⟩
/-- In which procedure. -/
def ofN (ofs : List Nat) (x : Nat) : Int := if x < ofs.length then (ofs.getD x 0 : Nat) else -1
set_option maxRecDepth 100000 in
set_option maxHeartbeats 1000000 in
theorem of_any {w : World} {B b : Nat} {vp vo vt : Value} {ps : List (Nat × Nat × Nat)} {ofs : List Nat} {us : List Value} {ts : List (List Nat)} (h : PAt w B b vp vo vt ps ofs us ts) (x : Nat) (hx : x < 4294967296) :
    Calls Try.prog 11 #[.pointer (some ⟨b, 0, none⟩), .int .u32 x] w fun e w' => e = .returned (.int .i64 (ofN ofs x)) ∧ w = w' := by
  have hc1 := h.c1
  obtain ⟨a, c, rfl, hnc, hcm, hp⟩ := own_sl h.oo
  have hm : ofs.length ≤ 9223372036854775807 := by unfold maxLen at hcm; omega
  unfold ofN
  by_cases hlt : x < ofs.length
  · obtain ⟨g, rfl, hg, hcell⟩ := hp (by omega)
    have hq := hcell x (by rw [encN_length]; exact hlt)
    rw [encN_at _ _ _ hlt] at hq
    rw [if_pos hlt]
    have hd : decide (ofs.length ≤ x) = false := decide_eq_false (by omega)
    have hd2 : (x : Int) < (ofs.length : Int) := by omega
    generalize ofs.getD x 0 = y at *
    clear h hp hcell
    go_enter Try.func11, Try.ntmps11
    go_wp2
    go_ret
    exact ⟨rfl, rfl⟩
  · rw [if_neg hlt]
    have hd : decide (ofs.length ≤ x) = true := decide_eq_true (by omega)
    have hd2 : ¬ (x : Int) < (ofs.length : Int) := by omega
    clear h hp
    go_enter Try.func11, Try.ntmps11
    go_wp2
    go_ret
    exact ⟨rfl, rfl⟩
def procV (p : Nat × Nat × Nat) : Value := .agg #[.int .u32 p.1, .int .u32 p.2.1, .int .u32 p.2.2, .int .i64 0]
theorem zero39 (w : World) : (zeroValue 39).run Try.prog w = .ok (.agg #[.int .u32 0, .int .u32 0, .int .u32 0, .int .i64 0]) w := by kernel_rfl
theorem run_build39 (w : World) : (Instr.build 39 #[]).run Try.prog w = .ok (.agg #[.int .u32 0, .int .u32 0, .int .u32 0, .int .i64 0]) w := by kernel_rfl
def procN (ps : List (Nat × Nat × Nat)) (i : Int) : Value := if 0 ≤ i ∧ i < ps.length then .tuple #[procV (ps.getD i.toNat (0, 0, 0)), .bool true] else .tuple #[procV (0, 0, 0), .bool false]
set_option maxRecDepth 100000 in
set_option maxHeartbeats 1000000 in
theorem proc_any {w : World} {B b : Nat} {vp vo vt : Value} {ps : List (Nat × Nat × Nat)} {ofs : List Nat} {us : List Value} {ts : List (List Nat)} (h : PAt w B b vp vo vt ps ofs us ts) (i : Int) :
    Calls Try.prog 9 #[.pointer (some ⟨b, 0, none⟩), .int .i64 i] w fun e w' => e = .returned (procN ps i) ∧ Below w.heap.size w w' := by
  have hb39 := run_build39
  have hz39 := zero39
  have hbl := World.block_lt_of_cell? _ _ h.c0
  have hc0 := ((Bel.new w (.cells #[.int .u32 0, .int .u32 0, .int .u32 0, .int .i64 0] 39)).cell (p := ⟨b, 0, none⟩) hbl).trans h.c0
  obtain ⟨a, c, rfl, hnc, hcm, hp⟩ := own_sl h.op
  have hm : ps.length ≤ 9223372036854775807 := by unfold maxLen at hcm; omega
  unfold procN
  by_cases h1 : 0 ≤ i
  · obtain ⟨k, rfl⟩ := Int.eq_ofNat_of_zero_le h1
    by_cases hlt : k < ps.length
    · obtain ⟨g, rfl, hg, hcell⟩ := hp (by omega)
      obtain ⟨q0, q1, q2, q3⟩ := encP_at ps k hlt
      have hl4 := encP_length ps
      have hnb := Bel.new w (.cells #[.int .u32 0, .int .u32 0, .int .u32 0, .int .i64 0] 39)
      have r0 := ((hnb.cell (p := ⟨g, k * 4, none⟩) hg).trans (hcell (k * 4) (by omega))).trans q0
      have r1 := ((hnb.cell (p := ⟨g, k * 4 + 1, none⟩) hg).trans (hcell (k * 4 + 1) (by omega))).trans q1
      have r2 := ((hnb.cell (p := ⟨g, k * 4 + 2, none⟩) hg).trans (hcell (k * 4 + 2) (by omega))).trans q2
      have r3 := ((hnb.cell (p := ⟨g, k * 4 + 3, none⟩) hg).trans (hcell (k * 4 + 3) (by omega))).trans q3
      rw [if_pos ⟨h1, by omega⟩]
      simp only [Int.toNat_natCast]
      generalize ps.getD k (0, 0, 0) = p at *
      obtain ⟨p0, p1, p2⟩ := p
      simp only at r0 r1 r2
      have hd : decide (ps.length ≤ k) = false := decide_eq_false (by omega)
      have hd2 : (k : Int) < (ps.length : Int) := by omega
      have hd3 : (0 : Int) ≤ (k : Int) := by omega
      clear h hp hcell q0 q1 q2 q3 hl4 hnb
      go_enter Try.func9, Try.ntmps9
      go_wp2
      exact bodyPost_ret (v := .tuple #[procV (p0, p1, p2), .bool true]) (by simp [results, Try.results9, go_sem, procV]) rfl ⟨rfl, Bel.new _ _⟩
    · rw [if_neg (by omega)]
      have hd : decide (ps.length ≤ k) = true := decide_eq_true (by omega)
      have hd2 : ¬ (k : Int) < (ps.length : Int) := by omega
      have hd3 : (0 : Int) ≤ (k : Int) := by omega
      clear h hp
      go_enter Try.func9, Try.ntmps9
      go_wp2
      exact bodyPost_ret (v := .tuple #[procV (0, 0, 0), .bool false]) (by simp [results, Try.results9, go_sem, procV]) rfl ⟨rfl, Bel.new _ _⟩
  · rw [if_neg (by omega)]
    have hd3 : i < 0 := by omega
    clear h hp
    go_enter Try.func9, Try.ntmps9
    go_wp2
    exact bodyPost_ret (v := .tuple #[procV (0, 0, 0), .bool false]) (by simp [results, Try.results9, go_sem, procV]) rfl ⟨rfl, Bel.new _ _⟩
/-- Does a procedure begin there? -/
def beginsN (ps : List (Nat × Nat × Nat)) (ofs : List Nat) (x : Nat) : Bool := decide (x < ofs.length) && ((ps.getD (ofs.getD x 0) (0, 0, 0)).1 == x)
set_option maxRecDepth 100000 in
set_option maxHeartbeats 1000000 in
theorem begins_any {w : World} {B b : Nat} {vp vo vt : Value} {ps : List (Nat × Nat × Nat)} {ofs : List Nat} {us : List Value} {ts : List (List Nat)} (h : PAt w B b vp vo vt ps ofs us ts) (hof : ∀ x, x < ofs.length → ofs.getD x 0 < ps.length) (x : Nat) (hx : x < 4294967296) :
    Calls Try.prog 12 #[.pointer (some ⟨b, 0, none⟩), .int .u32 x] w fun e w' => e = .returned (.bool (beginsN ps ofs x)) ∧ Below w.heap.size w w' := by
  have h1 := of_any h x hx
  have h2 := proc_any h (ofN ofs x)
  have hz39 := zero39
  unfold beginsN
  unfold ofN at h1 h2
  unfold procN procV at h2
  by_cases hlt : x < ofs.length
  · rw [if_pos hlt] at h1 h2
    rw [if_pos ⟨by omega, by have := hof x hlt; omega⟩] at h2
    simp only [Int.toNat_natCast] at h2
    have hd0 : decide (x < ofs.length) = true := decide_eq_true hlt
    rw [hd0]
    generalize ofs.getD x 0 = y at *
    generalize ps.getD y (0, 0, 0) = p at *
    obtain ⟨p0, p1, p2⟩ := p
    simp only at *
    have H1 := Lib.hid h1
    have H2 := Lib.hid h2
    clear h h1 h2 hof hd0
    go_enter Try.func12, Try.ntmps12
    go_wp2_with fail
    refine H1.out.mono ?_
    rintro e w1 ⟨rfl, rfl⟩
    go_wp2_with fail
    refine H2.out.mono ?_
    rintro e w2 ⟨rfl, hb⟩
    clear H1 H2
    by_cases hpx : p0 = x
    · subst hpx
      go_wp2
      go_ret
      exact ⟨by simp, Bel.al hb _⟩
    · have hd1 : (p0 == x) = false := by simpa using hpx
      have hd2 : ((p0 : Int) == (x : Int)) = false := by simp; omega
      go_wp2
      go_ret
      exact ⟨by simp [hpx], Bel.al hb _⟩
  · rw [if_neg hlt] at h1 h2
    rw [if_neg (by omega)] at h2
    have hd0 : decide (x < ofs.length) = false := decide_eq_false hlt
    rw [hd0]
    have H1 := Lib.hid h1
    have H2 := Lib.hid h2
    clear h h1 h2 hof hd0
    go_enter Try.func12, Try.ntmps12
    go_wp2_with fail
    refine H1.out.mono ?_
    rintro e w1 ⟨rfl, rfl⟩
    go_wp2_with fail
    refine H2.out.mono ?_
    rintro e w2 ⟨rfl, hb⟩
    clear H1 H2
    go_wp2
    go_ret
    exact ⟨by simp, Bel.al hb _⟩
def insideN (p : Nat × Nat × Nat) (x : Nat) : Bool := decide (p.1 < x) && decide (x < p.2.1)
set_option maxRecDepth 100000 in
theorem inside_any (p : Nat × Nat × Nat) (x : Nat) (w : World) :
    Calls Try.prog 50 #[procV p, .int .u32 x] w fun e w' => e = .returned (.bool (insideN p x)) ∧ Below w.heap.size w w' := by
  obtain ⟨p0, p1, p2⟩ := p
  unfold insideN procV
  simp only
  by_cases h1 : p0 < x
  · have hd : decide (p0 < x) = true := decide_eq_true h1
    go_enter Try.func50, Try.ntmps50
    go_wp2
    go_ret
    exact ⟨by simp [h1], Bel.new _ _⟩
  · have hd : decide (p0 < x) = false := decide_eq_false h1
    go_enter Try.func50, Try.ntmps50
    go_wp2
    go_ret
    exact ⟨by simp [h1], Bel.new _ _⟩
end Go.Proofs.Ytofkamnmgpkehab
