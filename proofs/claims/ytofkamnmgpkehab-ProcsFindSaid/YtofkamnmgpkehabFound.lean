import Derived.Test.YtofkamnmgpkehabEq39
import Derived.Test.YtofkamnmgpkehabOver
import Derived.Test.YtofkamnmgpkehabRefW
import Derived.Test.YtofkamnmgpkehabDet
import Derived.Test.YtofkamnmgpkehabWithinW
import Derived.Test.YtofkamnmgpkehabReady
import Derived.StillTailTactics
import Derived.Deep.RegionHeld3
/- Names with their texts. -/
namespace Go.Proofs.Ytofkamnmgpkehab
open Go.RowKit
def encX (l : List (ByteArray × Nat)) : List Value := l.flatMap fun p => [.string p.1, .int .u32 p.2]
theorem encX_length (l : List (ByteArray × Nat)) : (encX l).length = l.length * 2 := by
  induction l with
  | nil => rfl
  | cons p l ih => rw [show encX (p :: l) = [.string p.1, .int .u32 p.2] ++ encX l from rfl, List.length_append, ih]; simp; omega
theorem encX_append (l m : List (ByteArray × Nat)) : encX (l ++ m) = encX l ++ encX m := by simp [encX]
theorem encX_at (l : List (ByteArray × Nat)) : ∀ k, k < l.length → (encX l)[k * 2]? = some (.string (l.getD k (ByteArray.empty, 0)).1) ∧ (encX l)[k * 2 + 1]? = some (.int .u32 (l.getD k (ByteArray.empty, 0)).2) := by
  induction l with
  | nil => intro k h; simp at h
  | cons p l ih =>
    intro k h
    have e : encX (p :: l) = [.string p.1, .int .u32 p.2] ++ encX l := rfl
    cases k with
    | zero => rw [e]; exact ⟨rfl, rfl⟩
    | succ k =>
      obtain ⟨h1, h2⟩ := ih k (by simpa using h)
      rw [e]
      have f : ∀ t, ([.string p.1, .int .u32 p.2] ++ encX l : List Value)[(k + 1) * 2 + t]? = (encX l)[k * 2 + t]? := fun t => by
        rw [List.getElem?_append_right (by simp; omega)]; congr 1; simp; omega
      exact ⟨(f 0).trans h1, (f 1).trans h2⟩
theorem encX_one (l : List (ByteArray × Nat)) : ∀ u ∈ encX l, u.oneCell' = true := by
  intro u h
  obtain ⟨p, _, hp⟩ := List.mem_flatMap.1 h
  rcases List.mem_cons.1 hp with rfl | hp
  · rfl
  · rw [List.mem_singleton.1 hp]; rfl
/-- A row of names, its texts too. -/
def Texts (w : World) (v : Value) (l : List (ByteArray × Nat)) : Prop := Reads w 2 v l.length (encX l) ∧ ∀ k, (l.map (·.2)).getD k 0 < 4294967296
theorem Texts.below {w w' : World} {v : Value} {l : List (ByteArray × Nat)} (h : Texts w v l) (hb : Below w.heap.size w w') : Texts w' v l := ⟨h.1.below hb, h.2⟩
theorem getD_snd (l : List (ByteArray × Nat)) (k : Nat) : (l.map (·.2)).getD k 0 = (l.getD k (ByteArray.empty, 0)).2 := by
  rw [List.getD_eq_getElem?_getD, List.getD_eq_getElem?_getD, List.getElem?_map]
  cases l[k]? <;> rfl
theorem Texts.names {w : World} {v : Value} {l : List (ByteArray × Nat)} (h : Texts w v l) : NamesU w w.heap.size v (l.map (·.2)) := by
  obtain ⟨⟨a, cap, hv, hl, hn, hm, ha, hp⟩, hlt⟩ := h
  refine ⟨a, cap, by rw [List.length_map]; exact hv, by rw [List.length_map]; exact hn, hm, hlt, fun h0 => ?_⟩
  rw [List.length_map] at h0
  obtain ⟨b, off, e, hb, hc⟩ := hp h0
  refine ⟨b, off, e, hb, fun k hk => ?_⟩
  rw [List.length_map] at hk
  obtain ⟨e1, e2⟩ := encX_at l k hk
  exact ⟨_, (hc (k * 2) (by rw [encX_length]; omega)).trans e1, by rw [getD_snd, Nat.add_assoc]; exact (hc (k * 2 + 1) (by rw [encX_length]; omega)).trans e2⟩
theorem eq54 (s s' : ByteArray) (x x' : Int) (w : World) : (Op.equalIn 10000 54 (.agg #[.string s, .int .u32 x]) (.agg #[.string s', .int .u32 x'])).run Try.prog w = .ok (s.toList == s'.toList && x == x') w := by
  rw [show (10000 : Nat) = 9998 + 1 + 1 from rfl, run_equalIn_agg w (9998 + 1) 54 _ _ (by kernel_rfl) (by kernel_rfl)]
  have hu := Try.underlying54
  have hp : ∀ (s : ByteArray) (x : Int) (w : World), (part 9 #[.string s, .int .u32 x] 0).run Try.prog w = .ok (.string s) w := fun s x w => by kernel_rfl
  have hp1 : ∀ (s : ByteArray) (x : Int) (w : World), (part 32 #[.string s, .int .u32 x] 1).run Try.prog w = .ok (.int .u32 x) w := fun s x w => by kernel_rfl
  simp only [Program.fieldsOf, hu]
  simp only [Op.eqFields]
  generalize 9998 = n
  have hq : ∀ (a b : Int), (Op.equalIn (n + 1) 32 (.int .u32 a) (.int .u32 b)).run Try.prog w = .ok (a == b) w := fun a b => run_equalIn_int w n 32 .u32 .u32 a b Try.underlying32
  have hq3 : ∀ (a b : ByteArray), (Op.equalIn (n + 1) 9 (.string a) (.string b)).run Try.prog w = .ok (a.toList == b.toList) w := fun a b => run_equalIn_string w n 9 a b Try.underlying9
  cases hx : s.toList == s'.toList <;> cases hy : x == x' <;> simp [Sem.run_bind, hp, hp1, hq, hq3, hx, hy, -beq_iff_eq, -beq_eq_false_iff_ne]
theorem neql54 (s : ByteArray) (x : Int) (w : World) : (binOp .neq 54 (.agg #[.string s, .int .u32 x]) (.agg #[.string s, .int .u32 x])).run Try.prog w = .ok (.bool false) w := by
  rw [run_neq_struct, eq54]; simp
theorem info54 : (Try.prog.info? 54).map (fun i => (i.zero, i.size, i.bytes)) = some (some (.agg #[.string ByteArray.empty, .int .u32 0]), 2, 24) := by kernel_rfl
def markT : ByteArray := ⟨#[109, 97, 114, 107]⟩
def overT : ByteArray := ⟨#[111, 118, 101, 114]⟩
theorem run_b54 (s : ByteArray) (x : Int) (w : World) : (Instr.build 54 #[(0, .string s), (1, .int .u32 x)]).run Try.prog w = .ok (.agg #[.string s, .int .u32 x]) w := by kernel_rfl
theorem run_bs24_2 (s t : ByteArray) (x y : Int) (w : World) : (Instr.buildSlice 24 2 #[(0, .agg #[.string s, .int .u32 x]), (1, .agg #[.string t, .int .u32 y])]).run Try.prog w = .ok (.slice (some ⟨w.heap.size, 0, none⟩) 2 2) (w.alloc (.cells #[.string s, .int .u32 x, .string t, .int .u32 y] 54)) := by kernel_rfl
end Go.Proofs.Ytofkamnmgpkehab
/- found: what it keeps. -/
namespace Go.Proofs.Ytofkamnmgpkehab
open Go.RowKit
theorem FindBad.not_ok {code : List (Nat × Nat)} {js ats : List Nat} {i c : Nat} (h : FindBad code js ats i c) (k : FindOk code js ats) : False := by
  cases h with
  | enc h => exact h k.he
  | first _ h => exact h k.h3
  | fault _ _ i hi _ hf => exact hf (k.hall i hi)
  | jump _ _ _ i hi _ hb => have := k.hg i hi; rw [hb] at this; cases this
  | name _ _ _ _ i hi _ hb => have := k.hn i hi; rw [hb] at this; cases this
theorem own_cap {w : World} {e sz n : Nat} {a : Option Addr} {cap : Nat} {xs : List Value} (h : w.ownsRow 0 e sz (.slice a n cap) n xs) : n ≤ cap ∧ cap ≤ maxLen := by
  obtain ⟨a', c', hv, h1, h2, _⟩ := own_sl h
  cases hv
  exact ⟨h1, h2⟩
theorem marksC_lt (k : Int) (n m : Nat) : ∀ i ∈ marksC k n m, i.1 < 256 ∧ i.2 < 4294967296 := by
  intro i hi
  unfold marksC at hi
  obtain ⟨j, _, rfl⟩ := List.mem_map.1 hi
  exact mkC_lt _ _
theorem marksW_lt (k : Int) (n m : Nat) : ∀ i ∈ marksW k n m, i < 4294967296 := by
  intro i hi
  unfold marksW at hi
  obtain ⟨j, _, rfl⟩ := List.mem_map.1 hi
  exact mkW_lt _ _
/-- Words, each in its range. -/
def Words (w : World) (v : Value) (l : List Nat) : Prop := Reads w 1 v l.length (encN .u32 l) ∧ ∀ k, l.getD k 0 < 4294967296
theorem Words.below {w w' : World} {v : Value} {l : List Nat} (h : Words w v l) (hb : Below w.heap.size w w') : Words w' v l := ⟨h.1.below hb, h.2⟩
theorem Words.rowu {w : World} {v : Value} {l : List Nat} (h : Words w v l) : RowU w w.heap.size v l := by
  obtain ⟨⟨a, cap, hv, hl, hn, hm, ha, hp⟩, hlt⟩ := h
  refine ⟨a, cap, hv, hn, hm, hlt, fun h0 => ?_⟩
  obtain ⟨b, off, e, hb, hc⟩ := hp h0
  exact ⟨b, off, e, hb, fun k hk => by rw [hc k (by rw [encN_length]; exact hk), encN_at _ l k hk]⟩
theorem Reads.head {w : World} {sz g n cap : Nat} {xs ys : List Value} {k : Nat} (h : Reads w sz (.slice (some ⟨g, 0, none⟩) n cap) n (xs ++ ys)) (hk : xs.length = k * sz) (hkn : k ≤ n) : Reads w sz (.slice (some ⟨g, 0, none⟩) k cap) k xs := by
  obtain ⟨a, cap', hv, hl, hn, hm, ha, hp⟩ := h
  cases hv
  refine ⟨_, cap, rfl, hk, by omega, hm, ha, fun h0 => ?_⟩
  obtain ⟨b, off, e, hb, hc⟩ := hp (by omega)
  refine ⟨b, off, e, hb, fun j hj => ?_⟩
  rw [hc j (by rw [List.length_append]; omega), List.getElem?_append_left hj]
theorem Instrs.head {w : World} {g n cap : Nat} {l m : List (Nat × Nat)} (h : w.ownsRow 0 49 2 (.slice (some ⟨g, 0, none⟩) n cap) n (encI (l ++ m))) (hl : ∀ i ∈ l, i.1 < 256 ∧ i.2 < 4294967296) (hn : l.length ≤ n) : Instrs w (.slice (some ⟨g, 0, none⟩) l.length cap) l := by
  have := Reads.own h (by decide)
  rw [encI_append] at this
  exact ⟨this.head (by rw [encI_length]) hn, hl⟩
theorem Words.head {w : World} {g n cap : Nat} {l m : List Nat} (h : w.ownsRow 0 32 1 (.slice (some ⟨g, 0, none⟩) n cap) n (encN .u32 (l ++ m))) (hl : ∀ k, l.getD k 0 < 4294967296) (hn : l.length ≤ n) : Words w (.slice (some ⟨g, 0, none⟩) l.length cap) l := by
  have := Reads.own h (by decide)
  rw [encN_append] at this
  exact ⟨this.head (by rw [encN_length]; omega) hn, hl⟩
theorem Texts.head {w : World} {g n cap : Nat} {l m : List (ByteArray × Nat)} (h : w.ownsRow 0 54 2 (.slice (some ⟨g, 0, none⟩) n cap) n (encX (l ++ m))) (hl : ∀ k, (l.map (·.2)).getD k 0 < 4294967296) (hn : l.length ≤ n) : Texts w (.slice (some ⟨g, 0, none⟩) l.length cap) l := by
  have := Reads.own h (by decide)
  rw [encX_append] at this
  exact ⟨this.head (by rw [encX_length]) hn, hl⟩
theorem PAt.grown {w w' : World} {B b : Nat} {vp vo vt : Value} {ps : List (Nat × Nat × Nat)} {ofs : List Nat} {us : List Value} {ts : List (List Nat)} (h : PAt w B b vp vo vt ps ofs us ts) {row : Option Nat} (hg : w.grownBy w' row) (hr : ∀ g, row = some g → g < B) : PAt w' B b vp vo vt ps ofs us ts := by
  have hl := World.block_lt_of_cell? _ _ h.c0
  have hne : row ≠ some b := fun e => by have := hr b e; have := h.hb; omega
  have ho : ∀ {e sz n v xs}, w.ownsRow B e sz v n xs → w'.ownsRow B e sz v n xs := fun ho => own_grown ho hg (fun g e1 e2 => by have := (ho.lt g e1).1; have := hr g e2; omega)
  exact ⟨grown_cell hg h.c0 hl hne, grown_cell hg h.c1 hl hne, grown_cell hg h.c2 hl hne, h.hb, ho h.op, ho h.oo, ho h.ot, h.ul, fun j u l hu hl => ho (h.ou j u l hu hl)⟩
/-- What became of the call of Find, as its caller tells it from the outside. -/
def FindsTo (code : List (Nat × Nat)) (js ats : List Nat) (w : World) (pv : Value) (i c : Nat) (W : World) : Prop :=
  (pv = .pointer none ∧ FindBad code js ats i c) ∨ (i = 0 ∧ c = 0 ∧ FindOk code js ats ∧ ∃ b B, pv = .pointer (some ⟨b, 0, none⟩) ∧ w.heap.size ≤ B ∧ ∃ vp vo vt us, PAt W B b vp vo vt (psTo code code.length) (ofTo code code.length) us (aimTo (ofTo code code.length) js (psTo code code.length).length js.length))
theorem FindsTo.of {code : List (Nat × Nat)} {js ats : List Nat} {w : World} {e : Ending} {W : World} (h : FindPost code js ats w e W) : ∃ pv i c, e = .returned (.tuple #[pv, .int .i64 (i : Nat), .int .i64 (c : Nat)]) ∧ Below w.heap.size w W ∧ FindsTo code js ats w pv i c W := by
  obtain ⟨hb, ⟨i, c, rfl, hbad⟩ | ⟨b, B, rfl, hok, hB, -, vp, vo, vt, us, tag, hA⟩⟩ := h
  · exact ⟨_, i, c, rfl, hb, .inl ⟨rfl, hbad⟩⟩
  · exact ⟨_, 0, 0, rfl, hb, .inr ⟨rfl, rfl, hok, b, B, rfl, hB, vp, vo, vt, us, hA.at_⟩⟩
theorem FindsTo.ref {code : List (Nat × Nat)} {js ats : List Nat} {w w' : World} {pv : Value} {i c : Nat} {W W' : World} {e : Ending} (h : FindsTo code js ats w pv i c W) (hr : RefPost code js ats w' e W') : e = .returned (.tuple #[.int .i64 (i : Nat), .int .i64 (c : Nat)]) ∧ Below w'.heap.size w' W' := by
  obtain ⟨hb, ⟨i', c', rfl, hbad⟩ | ⟨rfl, hok⟩⟩ := hr
  · rcases h with ⟨_, hbad'⟩ | ⟨_, _, hok', _⟩
    · obtain ⟨rfl, rfl⟩ := hbad'.det hbad
      exact ⟨rfl, hb⟩
    · exact (hbad.not_ok hok').elim
  · rcases h with ⟨_, hbad'⟩ | ⟨rfl, rfl, hok', _⟩
    · exact (hbad'.not_ok hok).elim
    · exact ⟨rfl, hb⟩
theorem FindsTo.nil {code : List (Nat × Nat)} {js ats : List Nat} {w : World} {pv : Value} {i c : Nat} {W : World} (h : FindsTo code js ats w pv i c W) (W' : World) : (binOp .eql 28 pv (.pointer none)).run Try.prog W' = .ok (.bool ((c : Int) != 0)) W' := by
  rcases h with ⟨rfl, hbad⟩ | ⟨_, rfl, _, b, B, rfl, _⟩
  · have := hbad.ne
    have e : ((c : Int) != 0) = true := by simp; omega
    exact (show (binOp .eql 28 (.pointer none) (.pointer none)).run Try.prog W' = .ok (.bool true) W' by kernel_rfl).trans (by rw [e])
  · exact (show (binOp .eql 28 (.pointer (some ⟨b, 0, none⟩)) (.pointer none)).run Try.prog W' = .ok (.bool false) W' by kernel_rfl)
theorem FindsTo.less {code : List (Nat × Nat)} {js ats : List Nat} {w w0 : World} {pv : Value} {i c : Nat} {W : World} (h : FindsTo code js ats w pv i c W) (hs : w0.heap.size ≤ w.heap.size) : FindsTo code js ats w0 pv i c W := by
  rcases h with h | ⟨h1, h2, h3, b, B, h4, h5, h6⟩
  · exact .inl h
  · exact .inr ⟨h1, h2, h3, b, B, h4, Nat.le_trans hs h5, h6⟩
theorem FindsTo.turn {code : List (Nat × Nat)} {js ats : List Nat} {w : World} {pv : Value} {i c : Nat} {W W' : World} (h : FindsTo code js ats w pv i c W) {row : Option Nat} (hg : W.grownBy W' row) (hr : ∀ g, row = some g → g < w.heap.size) : FindsTo code js ats w pv i c W' := by
  rcases h with h | ⟨h1, h2, h3, b, B, h4, h5, vp, vo, vt, us, hA⟩
  · exact .inl h
  · exact .inr ⟨h1, h2, h3, b, B, h4, h5, vp, vo, vt, us, hA.grown hg (fun g e => Nat.lt_of_lt_of_le (hr g e) h5)⟩
end Go.Proofs.Ytofkamnmgpkehab
/- found: the walk. -/
namespace Go.Proofs.Ytofkamnmgpkehab
open Go.RowKit
set_option linter.unusedVariables false
/-- What found answers. -/
def FoundPost (vc vj : Value) (code : List (Nat × Nat)) (js ats : List Nat) (w : World) (e : Ending) (w' : World) : Prop :=
  Below w.heap.size w w' ∧ ∃ pv, e = .returned (.tuple #[pv, .bool true]) ∧ (pv = .pointer none ∨ ∃ b, pv = .pointer (some ⟨b, 0, none⟩) ∧ Ready w' b vc vj code js ats)
theorem cells_new4' (w : World) (a b c d : Value) (t : TypeId) : (w.alloc (.cells #[a, b, c, d] t)).cell? ⟨w.heap.size, 0, none⟩ = some a ∧ (w.alloc (.cells #[a, b, c, d] t)).cell? ⟨w.heap.size, 1, none⟩ = some b ∧ (w.alloc (.cells #[a, b, c, d] t)).cell? ⟨w.heap.size, 2, none⟩ = some c ∧ (w.alloc (.cells #[a, b, c, d] t)).cell? ⟨w.heap.size, 3, none⟩ = some d := ⟨by simp [go_sem], by simp [go_sem], by simp [go_sem], by simp [go_sem]⟩
theorem ob_ne {g g' n c : Nat} (h : g ≠ g') : ∀ q, (Value.slice (some ⟨g, 0, none⟩) n c).ownBlock = some q → (some g' : Option Nat) ≠ some q := fun q e e2 => h (by cases e; cases e2; rfl)
def marks2 : List (ByteArray × Nat) := [(⟨#[109, 97, 114, 107]⟩, 77), (⟨#[109, 97, 114, 107]⟩, 78)]
theorem marks2_reads (W : World) : Reads (W.alloc (.cells #[.string ⟨#[109, 97, 114, 107]⟩, .int .u32 77, .string ⟨#[109, 97, 114, 107]⟩, .int .u32 78] 54)) 2 (.slice (some ⟨W.heap.size, 0, none⟩) 2 2) 2 (encX marks2) := by
  refine ⟨_, 2, rfl, rfl, Nat.le_refl _, by unfold maxLen; omega, (fun h => by cases h), fun _ => ⟨W.heap.size, 0, rfl, by simp, fun j hj => ?_⟩⟩
  have hj' : j < 4 := hj
  rw [Nat.zero_add]
  have cn := cells_new4' W (.string ⟨#[109, 97, 114, 107]⟩) (.int .u32 77) (.string ⟨#[109, 97, 114, 107]⟩) (.int .u32 78) 54
  match j, hj' with
  | 0, _ => exact cn.1
  | 1, _ => exact cn.2.1
  | 2, _ => exact cn.2.2.1
  | 3, _ => exact cn.2.2.2
set_option maxRecDepth 100000 in
set_option maxHeartbeats 8000000 in
theorem found_any (vc vj vn : Value) (code : List (Nat × Nat)) (js : List Nat) (lx : List (ByteArray × Nat)) (w : World) (hc : Instrs w vc code) (hj : Words w vj js) (hx : Texts w vn lx)
    (s1 : code.length * 8 ≤ 140737488351232) (s2 : js.length * 4 ≤ 140737488351232) (s3 : lx.length * 24 ≤ 140737488351232) :
    Calls Try.prog 5 #[.agg #[vc, vj, vn]] w (FoundPost vc vj code js (lx.map (·.2)) w) := by
  obtain ⟨i0, hi, hz0, hz1, hz2⟩ := info_parts info54
  have hmx : Try.prog.follows .mixedOrders = true := by kernel_rfl
  have hb54 := run_b54
  have hbs := run_bs24_2
  have hne := neql54
  have hnb := Bel.new w (.cells #[vc, vj, vn] 26)
  have HA := Lib.hid (CodeAt.new hc hj.rowu hx.names 26)
  have HC := Lib.hid hc
  have HJ := Lib.hid hj
  have HX := Lib.hid hx
  obtain ⟨ac, cc, rfl, hlc, hcm, -, -⟩ := hc.opened
  obtain ⟨aj, cj, rfl, -, hlj, hjm, -, -⟩ := hj.1
  obtain ⟨an, cn, rfl, -, hln, hnm, -, -⟩ := hx.1
  have Hlc := Lib.hid (lentCode_any _ code s1 _ (hc.below hnb))
  clear hc hj hx hnb
  go_enter Try.func5, Try.ntmps5
  go_wp2_with fail
  refine Hlc.out.mono ?_
  rintro e w1 ⟨g1, cap1, rfl, o1, hb1, hg1⟩
  clear Hlc
  have HA1 := Lib.hid (HA.out.calm hb1)
  have hb01 := Lib.hid (HA1.out.b)
  have Hlw := Lib.hid (lentWords_any _ js s2 w1 (HJ.out.below hb01.out).1)
  have c1 := HA1.out.c1
  have O1 := Lib.hid o1
  have hg1lt := (o1.lt g1 rfl).2
  clear o1 hb1
  go_wp2_with fail
  refine Hlw.out.mono ?_
  rintro e w2 ⟨g2, cap2, rfl, o2, hb2, hg2⟩
  clear Hlw c1
  have HA2 := Lib.hid (HA1.out.calm hb2)
  have O12 := Lib.hid (own_below O1.out hb2)
  have hxr := Lib.hid (HX.out.below HA2.out.b).1
  have hone := Lib.hid (encX_one lx)
  have c2 := HA2.out.c2
  have Hn0 := Lib.hid (World.ownsRow_nil w2 0 54 2)
  have O2 := Lib.hid o2
  clear o2 hb2 HA1 O1
  have hm2 := Lib.hid marks2_reads
  have hone2 := Lib.hid (encX_one marks2)
  go_wp2_with (first
    | ((with_reducible refine wpList_append_reads (o := ⟨some 24, .call { callee := .builtin .append, args := #[.tmp 21, .tmp 23], argTypes := #[24, 24] }, _, _, _, none⟩) rfl _ _ 24 rfl 54 i0 (.agg #[.string ByteArray.empty, .int .u32 0]) 2 24 Try.underlying24 hi hz0 hz1 hz2 ?_ ?_ _ 0 [] ?_ Hn0.out _ lx.length (encX lx) ?_ hxr.out hone.out ?_ ?_ ?_); rfl; decide; rfl; rfl; (unfold maxLen; omega); omega; intro v3 w3 o3 g3; have O3 := Lib.hid o3; have G3 := Lib.hid g3; clear o3 g3)
    | ((with_reducible refine wpList_append_reads (o := ⟨some 29, .call { callee := .builtin .append, args := #[.tmp 25, .tmp 28], argTypes := #[24, 24] }, _, _, _, none⟩) rfl _ _ 24 rfl 54 i0 (.agg #[.string ByteArray.empty, .int .u32 0]) 2 24 Try.underlying24 hi hz0 hz1 hz2 ?_ ?_ _ _ _ ?_ (own_below O3.out (Bel.new _ _)) _ 2 (encX marks2) ?_ (hm2.out _) hone2.out ?_ ?_ ?_); rfl; decide; rfl; rfl; (unfold maxLen; omega); omega; intro v4 w4 o4 g4; have O4 := Lib.hid o4; have G4 := Lib.hid g4; clear o4 g4))
  obtain ⟨g3, cap3, rfl, -, hg3lt⟩ := own_start O4.out (by omega)
  have hb24 : Below w2.heap.size w2 w4 := (Bel.al G3.out.bel (.cells #[.string ⟨#[109, 97, 114, 107]⟩, .int .u32 77, .string ⟨#[109, 97, 114, 107]⟩, .int .u32 78] 54)).grown G4.out.1 (by have := G3.out.bel.size; simp; omega) (fun g e => by
    rcases G3.out.2 g e with h | h
    · cases h
    · exact h)
  have hg3 : w2.heap.size ≤ g3 := by
    rcases G4.out.2 g3 rfl with h | h
    · rcases G3.out.2 g3 h with h | h
      · cases h
      · exact h
    · have := G3.out.bel.size; simp at h; omega
  have O4' := Lib.hid (show w4.ownsRow 0 54 2 (.slice (some ⟨g3, 0, none⟩) (lx.length + 2) cap3) (lx.length + 2) (encX (lx ++ marks2)) from by
    have h := O4.out
    rw [Nat.zero_add, List.nil_append, ← encX_append] at h
    exact h)
  rw [Nat.zero_add]
  have HA4 := Lib.hid (HA2.out.calm hb24)
  have O1' := Lib.hid (own_below O12.out hb24)
  have O2' := Lib.hid (own_below O2.out hb24)
  have hgs : w.heap.size < g1 ∧ g1 < w1.heap.size ∧ w1.heap.size ≤ g2 ∧ g2 < w2.heap.size ∧ w2.heap.size ≤ g3 := ⟨by have h := hg1; simp at h; omega, hg1lt, hg2, (O2.out.lt g2 rfl).2, hg3⟩
  have hcp1 := (own_cap O1'.out).1
  have hcp2 := (own_cap O2'.out).1
  have hcp3 := (own_cap O4'.out).1
  have k1 : (code.length : Int) ≤ (cap1 : Int) := by omega
  have k2 : (js.length : Int) ≤ (cap2 : Int) := by omega
  have k3 : (lx.length : Int) ≤ (cap3 : Int) := by omega
  have k10 : (0 : Int) ≤ (code.length : Int) := by omega
  have k20 : (0 : Int) ≤ (js.length : Int) := by omega
  have k30 : (0 : Int) ≤ (lx.length : Int) := by omega
  have HF := Lib.hid (fun (W : World) (hS : W.cell? ⟨w.heap.size, 0, none⟩ = some (.slice ac code.length cc) ∧ W.cell? ⟨w.heap.size, 1, none⟩ = some (.slice aj js.length cj) ∧ W.cell? ⟨w.heap.size, 2, none⟩ = some (.slice an lx.length cn) ∧ Below w4.heap.size w4 W) =>
    (show Calls Try.prog 15 #[.slice (some ⟨g1, 0, none⟩) code.length cap1, .slice (some ⟨g2, 0, none⟩) js.length cap2, .slice (some ⟨g3, 0, none⟩) lx.length cap3] W fun e w' =>
      ∃ pv i c, e = .returned (.tuple #[pv, .int .i64 (i : Nat), .int .i64 (c : Nat)]) ∧ (w'.cell? ⟨w.heap.size, 0, none⟩ = some (.slice ac code.length cc) ∧ w'.cell? ⟨w.heap.size, 1, none⟩ = some (.slice aj js.length cj) ∧ w'.cell? ⟨w.heap.size, 2, none⟩ = some (.slice an lx.length cn) ∧ Below w4.heap.size w4 w') ∧ FindsTo code js (lx.map (·.2)) w4 pv i c w' from by
      have hb := hS.2.2.2
      refine (find_any (.slice (some ⟨g1, 0, none⟩) code.length cap1) (.slice (some ⟨g2, 0, none⟩) js.length cap2) (.slice (some ⟨g3, 0, none⟩) lx.length cap3) code js (lx.map (·.2))
        (Instrs.head (own_below O1'.out hb) HC.out.2 (by omega)) (Words.head (own_below O2'.out hb) HJ.out.2 (by omega)).rowu (Texts.head (own_below O4'.out hb) HX.out.2 (by omega)).names).mono ?_
      intro e w' h
      obtain ⟨pv, i, c, rfl, hb5, hF⟩ := FindsTo.of h
      have hl := World.block_lt_of_cell? _ _ hS.1
      exact ⟨pv, i, c, rfl, ⟨(hb5.cell (p := ⟨w.heap.size, 0, none⟩) hl).trans hS.1, (hb5.cell (p := ⟨w.heap.size, 1, none⟩) hl).trans hS.2.1, (hb5.cell (p := ⟨w.heap.size, 2, none⟩) hl).trans hS.2.2.1, Bel.tr hb hb5⟩, hF.less hb.size⟩))
  have c0 := HA4.out.c0
  have c1 := HA4.out.c1
  have c2' := HA4.out.c2
  have hS0 := Lib.hid (show w4.drew.cell? ⟨w.heap.size, 0, none⟩ = some (.slice ac code.length cc) ∧ w4.drew.cell? ⟨w.heap.size, 1, none⟩ = some (.slice aj js.length cj) ∧ w4.drew.cell? ⟨w.heap.size, 2, none⟩ = some (.slice an lx.length cn) ∧ Below w4.heap.size w4 w4.drew from ⟨c0, c1, c2', (Below.refl _ _).drew⟩)
  clear hb24 O4 O12 O2 G3 G4 O3 HA2 hxr hone Hn0 hm2 hone2 c2 hg1 hg2 hg3 hb01 HA c0 c1 c2'
  go_region_held3 (fun w' => w'.cell? ⟨w.heap.size, 0, none⟩ = some (.slice ac code.length cc) ∧ w'.cell? ⟨w.heap.size, 1, none⟩ = some (.slice aj js.length cj) ∧ w'.cell? ⟨w.heap.size, 2, none⟩ = some (.slice an lx.length cn) ∧ Below w4.heap.size w4 w')
    (first | assumption | exact hS0.out)
    (first | (go_at_call 15; refine (HF.out _ ?_).mono ?_; assumption; rintro e w5 ⟨pv, i, c, rfl, hS5, hF5⟩) | fail)
  have HA5 := Lib.hid (HA4.out.calm hS5.2.2.2)
  have HF5 := Lib.hid hF5
  have O15 := Lib.hid (own_below O1'.out hS5.2.2.2)
  have O25 := Lib.hid (own_below O2'.out hS5.2.2.2)
  have O35 := Lib.hid (own_below O4'.out hS5.2.2.2)
  have hs45 := hS5.2.2.2.size
  have Hrf := Lib.hid (reffind_any (.slice ac code.length cc) (.slice aj js.length cj) (.slice an lx.length cn) code js (lx.map (·.2)) HA5.out.hc HA5.out.hj HA5.out.hn)
  have c0 := hS5.1
  have c1 := hS5.2.1
  have c2 := hS5.2.2.1
  clear k1 k2 k3 k10 k20 k30 hS0 hS5 hF5 HF HA4 O1' O2' O4'
  go_wp2_with fail
  refine Hrf.out.mono ?_
  rintro e w6 hr
  obtain ⟨rfl, hb6⟩ := HF5.out.ref hr
  clear hr Hrf c0 c1 c2
  have HA6 := Lib.hid (HA5.out.calm hb6)
  have HF6 := Lib.hid (HF5.out.turn (below_grownBy hb6 none) (fun g e => by cases e))
  have O16 := Lib.hid (own_below O15.out hb6)
  have O26 := Lib.hid (own_below O25.out hb6)
  have O36 := Lib.hid (own_below O35.out hb6)
  have hs56 := hb6.size
  obtain ⟨po, rfl⟩ : ∃ po, pv = .pointer po := by
    rcases HF6.out with ⟨h, _⟩ | ⟨_, _, _, b, B, h, _⟩
    · exact ⟨_, h⟩
    · exact ⟨_, h⟩
  have hnil := HF6.out.nil
  have hkc := fun (W : World) (hb : Below w6.heap.size w6 W) => keptCode_true (.slice (some ⟨g1, 0, none⟩) (code.length + 64) cap1) (.slice ac code.length cc) code s1 W
    ⟨by rw [List.length_append, marksC_length]; exact Reads.own (own_below O16.out hb) (by decide), fun i hi => by
      rcases List.mem_append.1 hi with h | h
      · exact HC.out.2 i h
      · exact marksC_lt _ _ _ i h⟩ (HA6.out.hc.below hb)
  have hkw := fun (W : World) (hb : Below w6.heap.size w6 W) => keptWords_true (.slice (some ⟨g2, 0, none⟩) (js.length + 64) cap2) (.slice aj js.length cj) js s2 W
    (by rw [List.length_append, marksW_length]; exact Reads.own (own_below O26.out hb) (by decide)) ((HJ.out.below HA6.out.b).below hb).1
  have Hkc := Lib.hid (hkc w6 (Below.refl _ _))
  have Hkw := Lib.hid hkw
  have c0 := HA6.out.c0
  clear hkc hkw hb6 HA5 HF5 O15 O25 O35
  go_wp2_with fail
  refine Hkc.out.mono ?_
  rintro e w7 ⟨rfl, hb7⟩
  have Hb7 := Lib.hid hb7
  have c1 := (HA6.out.calm hb7).c1
  clear hb7 c0 Hkc
  go_wp2_with fail
  refine (Hkw.out _ Hb7.out).mono ?_
  rintro e w8 ⟨rfl, hb8⟩
  have Hb8 := Lib.hid (Bel.tr Hb7.out hb8)
  have HA8 := Lib.hid (HA6.out.calm Hb8.out)
  have O18 := Lib.hid (own_below O16.out Hb8.out)
  have O28 := Lib.hid (own_below O26.out Hb8.out)
  have O38 := Lib.hid (own_below O36.out Hb8.out)
  have HF8 := Lib.hid (HF6.out.turn (below_grownBy Hb8.out none) (fun g e => by cases e))
  have hs68 := Hb8.out.size
  clear hb8 Hb7 c1 Hkw hnil HF6 O16 O26 O36 HA6 Hb8
  go_wp2_with fail
  go_loopw [12] (fun i wr => ∃ k : Nat, k ≤ lx.length + 2 ∧ i = .int .i64 k ∧ Below w8.heap.size w8 wr) (fun i _ => lx.length + 2 - (intOf i).toNat)
  case atStart => exact ⟨0, by omega, rfl, Below.refl _ _⟩
  case round =>
    obtain ⟨k, hk, rfl, hb⟩ := hrel
    have HA9 := HA8.out.calm hb
    by_cases hlt : k < lx.length + 2
    · have hlm : (lx ++ marks2).length = lx.length + 2 := by rw [List.length_append]; rfl
      have O39 := own_below O38.out hb
      obtain ⟨e0, e1⟩ := encX_at (lx ++ marks2) k (by omega)
      have he := encX_length (lx ++ marks2)
      rw [← O39.cellAt _ (by omega)] at e0 e1
      have c2 := HA9.c2
      have hbw := HA9.b
      have hkk : (k : Int) < ((lx.length + 2 : Nat) : Int) := by omega
      have hk0 : (0 : Int) ≤ (k : Int) := by omega
      have hn0 : (0 : Int) ≤ (lx.length : Int) := by omega
      have hl0 : w.heap.size < wr.heap.size := HA9.lt
      have hl0' : wr.heap.size ≠ w.heap.size := by omega
      have hl3 : g3 < wr.heap.size := World.block_lt_of_cell? _ _ e0
      have hl3' : wr.heap.size ≠ g3 := by omega
      have Hb := Lib.hid hb
      by_cases hk2 : k < lx.length
      · obtain ⟨⟨a, cap, hv, hl, hn, hm, ha, hp⟩, -⟩ := HX.out
        cases hv
        obtain ⟨b, off, rfl, hbl, hcc⟩ := hp (by omega)
        obtain ⟨f0, f1⟩ := encX_at lx k hk2
        have he2 := encX_length lx
        rw [← hcc _ (by omega)] at f0 f1
        have f0' := (hbw.cell (p := ⟨b, off + k * 2, none⟩) hbl).trans f0
        have f1' := (hbw.cell (p := ⟨b, off + (k * 2 + 1), none⟩) hbl).trans f1
        rw [getD_left lx marks2 _ k hk2] at e0 e1
        generalize lx.getD k (ByteArray.empty, 0) = x at *
        obtain ⟨s, x⟩ := x
        simp only [← Nat.add_assoc] at f1'
        have hlb : b < wr.heap.size := World.block_lt_of_cell? _ _ f0'
        have hlb' : wr.heap.size ≠ b := by omega
        have hd : decide (k < lx.length) = true := decide_eq_true hk2
        have hki : (k : Int) < (lx.length : Int) := by omega
        clear hcc hp f0 f1 he he2 hbw HA9 hb O39
        simp only at e0 e1 f0' f1'
        go_wp2_with fail
        go_quiet (fail)
        go_wp2
        go_roundw
        case rel => exact ⟨k + 1, by omega, by go_num, below_drewN (Bel.tr Hb.out (Bel.new _ _)) _⟩
        case measure => simp [intOf]; omega
      · obtain ⟨j, rfl⟩ : ∃ j, k = lx.length + j := ⟨k - lx.length, by omega⟩
        have hj : j < 2 := by omega
        rw [getD_right] at e0 e1
        have hm : (marks2.getD j (ByteArray.empty, 0)).1 = ⟨#[109, 97, 114, 107]⟩ ∧ (marks2.getD j (ByteArray.empty, 0)).2 = 77 + j := by
          rcases (by omega : j = 0 ∨ j = 1) with rfl | rfl <;> exact ⟨rfl, rfl⟩
        rw [hm.1] at e0
        rw [hm.2] at e1
        have hd : decide (lx.length + j < lx.length) = false := decide_eq_false hk2
        have hki : ¬ ((lx.length : Int) + (j : Int) < (lx.length : Int)) := by omega
        have hval := Lib.hid (show (77 + ((lx.length : Int) + (j : Int)) - (lx.length : Int)) = ((77 + j : Nat) : Int) from by omega)
        clear hbw HA9 hb O39 hm he
        generalize 77 + j = x at *
        go_wp2_with fail
        rw [hval.out]
        go_quiet (fail)
        go_wp2
        go_roundw
        case rel => exact ⟨lx.length + j + 1, by omega, by go_num, below_drewN (Bel.tr Hb.out (Bel.new _ _)) _⟩
        case measure => simp [intOf]; omega
    · obtain rfl : k = lx.length + 2 := by omega
      have HB := Lib.hid hb
      have hov := overCode_any g1 (code.length + 64) cap1 _ (by omega) wr (own_below O18.out hb)
      have Hov := Lib.hid hov
      clear hov HA9 hb hlt hk
      go_wp2_with fail
      refine Hov.out.mono ?_
      rintro e w9 ⟨⟨ve, rfl⟩, hg9⟩
      have hg12 := hgs.2.2.1
      have hg22 := hgs.2.2.2.1
      have hg32 := hgs.2.2.2.2
      have HO2 := Lib.hid (own_grown (own_below O28.out HB.out) hg9 (ob_ne (by omega)))
      have HO3 := Lib.hid (own_grown (own_below O38.out HB.out) hg9 (ob_ne (by omega)))
      have Hov2 := Lib.hid (overWords_any g2 (js.length + 64) cap2 _ (by omega) w9 HO2.out)
      have HG9 := Lib.hid hg9
      clear hg9 Hov
      go_wp2_with fail
      refine Hov2.out.mono ?_
      rintro e w10 ⟨⟨ve2, rfl⟩, hg10⟩
      have HO4 := Lib.hid (own_grown HO3.out hg10 (ob_ne (by omega)))
      have HG10 := Lib.hid hg10
      clear hg10 Hov2
      go_wp2_with fail
      go_loopw [14] (fun i wr => ∃ (k : Nat) (ys : List Value), k ≤ lx.length + 2 ∧ i = .int .i64 k ∧ wr.ownsRow 0 54 2 (.slice (some ⟨g3, 0, none⟩) (lx.length + 2) cap3) (lx.length + 2) ys ∧ w10.grownBy wr (some g3)) (fun i _ => lx.length + 2 - (intOf i).toNat)
      case atStart => exact ⟨0, _, by omega, rfl, HO4.out, grownBy_refl _ _⟩
      case round =>
        clear HO4
        obtain ⟨k, ys, hk, rfl, ho, hg⟩ := hrel
        by_cases hlt : k < lx.length + 2
        · have hc1 : wr.cell? ⟨g3, k * 2, none⟩ = some (ys.getD (k * 2) undef) := by
            rw [ho.cellAt _ (by omega), List.getD_eq_getElem?_getD, List.getElem?_eq_getElem (by rw [ho.1]; omega)]; rfl
          have hc2 : wr.cell? ⟨g3, k * 2 + 1, none⟩ = some (ys.getD (k * 2 + 1) undef) := by
            rw [ho.cellAt _ (by omega), List.getD_eq_getElem?_getD, List.getElem?_eq_getElem (by rw [ho.1]; omega)]; rfl
          have hf1 : wr.frozen? ⟨g3, k * 2, none⟩ = false := ho.frozenAt _
          have hf2 : wr.frozen? ⟨g3, k * 2 + 1, none⟩ = false := ho.frozenAt _
          have t1 := ho.stored (k * 2) (.string ⟨#[111, 118, 101, 114]⟩)
          have t2 := t1.1.stored (k * 2 + 1) (.int .u32 1)
          have Hst := Lib.hid (And.intro t2.1 (grownBy_trans (grownBy_trans hg t1.2 (fun q e => .inl e)) t2.2 (fun q e => .inl e)))
          have hkk : (k : Int) < ((lx.length + 2 : Nat) : Int) := by omega
          have hk0 : (0 : Int) ≤ (k : Int) := by omega
          clear ho t1 t2 hg
          go_wp2
          go_roundw
          case rel => exact ⟨k + 1, _, by omega, by go_num, Hst.out.1, Hst.out.2⟩
          case measure => simp [intOf]; omega
        · obtain rfl : k = lx.length + 2 := by omega
          have h0 := Bel.tr HA8.out.b HB.out
          have hs0 := h0.size
          have hs9 := HG9.out.size
          have hs10 := HG10.out.size
          have hg8 : Below w.heap.size w wr := ((h0.grown HG9.out hs0 (fun g e => by cases e; omega)).grown HG10.out (by omega) (fun g e => by cases e; omega)).grown hg (by omega) (fun g e => by cases e; omega)
          have hF : FindsTo code js (lx.map (·.2)) w4 (.pointer po) i c wr := (((HF8.out.turn (below_grownBy HB.out none) (fun g e => by cases e)).turn HG9.out (fun g e => by cases e; omega)).turn HG10.out (fun g e => by cases e; omega)).turn hg (fun g e => by cases e; exact hg3lt)
          clear h0 hs0 hs9 hs10
          have HX := Lib.hid (And.intro hg8 hF)
          clear hg8 hF hg ho
          go_wp2
          exact bodyPost_ret (v := .tuple #[.pointer po, .bool true]) (by simp [results, Try.results5, go_sem]) rfl ⟨HX.out.1, _, rfl, by
            rcases HX.out.2 with ⟨h, _⟩ | ⟨_, _, hok, b, B, h, _, vp, vo, vt, us, hA⟩
            · exact .inl h
            · exact .inr ⟨b, h, hok, HC.out.below HX.out.1, (HJ.out.below HX.out.1).rowu, B, vp, vo, vt, us, hA⟩⟩
end Go.Proofs.Ytofkamnmgpkehab
