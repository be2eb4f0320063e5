import Derived.Test.YtflpbgdghaaiaaaGreatS1
import Derived.Lib.Walk
import Derived.WalkLawsBesides
import Derived.Laws.CopyOwn
import Derived.Deep.RegionLaw
import Derived.Deep.RegionHeld3
import Derived.Lib.ConvBytes
import Derived.Deep.DrawnRows
namespace Go.Proofs.YtflpbgdghaaiaaaGreat
open Go.RowKit
attribute [local go_sem] Oper.semAt_some
def encP2 (x : Nat × (Nat × Nat × Nat)) : Array Value := #[.int .i64 x.1, procV x.2]
def nums (ps : List (Nat × Nat × Nat)) : List (Nat × (Nat × Nat × Nat)) := (List.range ps.length).map fun i => (i, ps.getD i (0, 0, 0))
theorem nums_length (ps : List (Nat × Nat × Nat)) : (nums ps).length = ps.length := by simp [nums]
theorem nums_at (ps : List (Nat × Nat × Nat)) (k : Nat) (hk : k < ps.length) : (nums ps)[k]? = some (k, ps.getD k (0, 0, 0)) := by
  unfold nums
  rw [List.getElem?_map, List.getElem?_range hk]
  rfl
theorem nums_take (ps : List (Nat × Nat × Nat)) (k : Nat) (hk : k < ps.length) : (nums ps).take (k + 1) = (nums ps).take k ++ [(k, ps.getD k (0, 0, 0))] := by
  rw [List.take_add_one, nums_at ps k hk]; rfl
theorem nums_split (ps : List (Nat × Nat × Nat)) (k : Nat) (hk : k < ps.length) : nums ps = (nums ps).take k ++ (k, ps.getD k (0, 0, 0)) :: (nums ps).drop (k + 1) := by
  have h := List.take_append_drop (k + 1) (nums ps)
  rw [nums_take ps k hk, List.append_assoc] at h
  exact h.symm
def KnP (B bx b : Nat) (vp : Value) (ps : List (Nat × Nat × Nat)) (A : World) : Prop :=
  A.cell? ⟨bx, 0, none⟩ = some (.pointer (some ⟨b, 0, none⟩)) ∧ A.cell? ⟨b, 0, none⟩ = some vp ∧ A.ownsRow B 71 4 vp ps.length (encP ps)
set_option maxRecDepth 100000 in
set_option maxHeartbeats 4000000 in
theorem all1 (n : Nat) (hn : 3 ≤ n) (l B bx b : Nat) (vp : Value) (ps : List (Nat × Nat × Nat)) (J : List (Nat × (Nat × Nat × Nat)) → World → Prop) (Jx : World → Prop)
    (hstab : ∀ d A C, J d A → Below A.heap.size A C → J d C)
    (hJ : ∀ d W, J d W → KnP B bx b vp ps W)
    (hY : ∀ pre x rest W, nums ps = pre ++ x :: rest → J pre W → YieldAt Fence.wide (n - 1) Tryz.prog l (encP2 x) W fun e W' =>
      (e = .returned (.bool true) ∧ J (pre ++ [x]) W') ∨ (e = .returned (.bool false) ∧ Jx W'))
    (W : World) (h0 : J [] W) :
    CallsIn Fence.wide n Tryz.prog 130 #[.func (.yield l) #[] #[], .pointer (some ⟨bx, 0, none⟩)] W fun e W' => (∃ u, e = .returned u) ∧ ((∃ W2, J (nums ps) W2 ∧ W' = W2) ∨ Jx W') := by
  have h1 : 1 ≤ n := by omega
  obtain ⟨hbx, hb, hrow⟩ := hJ _ _ h0
  obtain ⟨ap, cp, rfl, hnc, hcm, hp⟩ := own_sl hrow
  have hm : ps.length ≤ 9223372036854775807 := by unfold maxLen at hcm; omega
  clear hrow hp
  refine callsIn_of_wp Tryz.func130 rfl trivial ?_ rfl
  simp only [Tryz.ntmps130, List.size_toArray, List.length_cons, List.length_nil, Nat.reduceAdd, Nat.reduceSub, Array.replicate_succ, Array.replicate_zero, List.push_toArray, List.append_toArray, List.nil_append, List.cons_append]
  gi_wp2
  obtain ⟨N, hNN⟩ : ∃ N, N = ps.length := ⟨_, rfl⟩
  have HN := Lib.hid hNN
  rw [← hNN] at hnc hm ⊢
  clear hNN hbx hb
  gi_loopw [12] (fun i wr => ∃ (k : Nat), k ≤ N ∧ i = .int .i64 k ∧ J ((nums ps).take k) wr) (fun i _ => N - (intOf i).toNat)
  case atStart => exact ⟨0, by omega, rfl, h0⟩
  case round =>
    obtain ⟨k, hk, rfl, hj⟩ := hrel
    by_cases hlt' : k < N
    · obtain ⟨hbx, hb, hrow⟩ := hJ _ _ hj
      obtain ⟨gp, cq, hvq, hgp, -⟩ := own_start hrow (by rw [← HN.out]; omega)
      cases hvq
      have hkl : k < ps.length := by rw [← HN.out]; exact hlt'
      obtain ⟨q0, q1, q2, q3⟩ := encP_at ps k hkl
      have hl4 := encP_length ps
      rw [← hrow.cellAt _ (by omega)] at q0 q1 q2 q3
      have hY' := fun W hW => hY _ _ _ W (nums_split ps k hkl) hW
      have htk := nums_take ps k hkl
      generalize ps.getD k (0, 0, 0) = pr at *
      obtain ⟨p0, p1, p2⟩ := pr
      simp only [encP2, procV] at *
      have Htk := Lib.hid htk
      have HY := Lib.hid hY'
      have Hj := Lib.hid hj
      have hki : (k : Int) < (N : Int) := by omega
      have hk0 : (0 : Int) ≤ (k : Int) := by omega
      clear htk hY' hrow hbx hb hl4 hkl hj
      obtain ⟨fn, tmps, assign, body, hy, hR⟩ := HY.out (wr.alloc (.cells #[.int .u32 p0, .int .u32 p1, .int .u32 p2, .int .i64 0] 71)) (hstab _ _ _ Hj.out (Bel.new _ _))
      gi_wp2
      refine hR.mono ?_
      rintro e W3 (⟨rfl, hJ3⟩ | ⟨rfl, hJx3⟩)
      · gi_wp2
        go_roundw
        case rel => exact ⟨k + 1, by omega, by go_num, by rw [Htk.out]; exact hJ3⟩
        case measure => simp [intOf]; omega
      · gi_wp2
        refine bodyPost_ret (results_none rfl _ _ _) rfl ?_
        exact ⟨⟨_, rfl⟩, .inr hJx3⟩
    · obtain rfl : k = N := by omega
      have hj2 : J (nums ps) wr := by
        rw [List.take_of_length_le (by rw [nums_length, ← HN.out]; exact Nat.le_refl _)] at hj
        exact hj
      clear hj
      gi_wp2
      go_end0
      exact ⟨⟨_, rfl⟩, .inl ⟨wr, hj2, rfl⟩⟩
theorem all_seq (n : Nat) (hn : 3 ≤ n) (B bx b : Nat) (vp : Value) (ps : List (Nat × Nat × Nat)) : SeqTo Tryz.prog n 130 #[.pointer (some ⟨bx, 0, none⟩)] encP2 (nums ps) (KnP B bx b vp ps) (fun A C => C = A) :=
  fun l J Jx W hst hk hY h0 => all1 n hn l B bx b vp ps J Jx hst hk hY W h0
set_option maxRecDepth 100000 in
theorem all_any (a : Option Addr) (w : World) : Calls Tryz.prog 112 #[.pointer a] w fun r w' => r = .returned (.func (.func 130) #[] #[.pointer (some ⟨w.heap.size, 0, none⟩)]) ∧ w' = w.alloc (.cells #[.pointer a] 87) := by
  go_enter Tryz.func112, Tryz.ntmps112
  go_wp2
  go_ret
  exact ⟨rfl, rfl⟩
end Go.Proofs.YtflpbgdghaaiaaaGreat
namespace Go.Proofs.YtflpbgdghaaiaaaGreat
open Go.RowKit
theorem run_bs23_0 (w : World) : (Instr.buildSlice 23 0 #[]).run Tryz.prog w = .ok (.slice (some ⟨w.heap.size, 0, none⟩) 0 0) (w.alloc (.cells #[] 25)) := by kernel_rfl
theorem own_empty (w : World) (t : TypeId) (sz : Nat) : (w.alloc (.cells #[] t)).ownsRow 0 t sz (.slice (some ⟨w.heap.size, 0, none⟩) 0 0) 0 [] :=
  ⟨by simp, .inr ⟨w.heap.size, 0, #[], rfl, Nat.zero_le _, World.alloc_heap_new w _, Nat.le_refl _, Nat.zero_le _, by simp, by simp⟩⟩
set_option maxRecDepth 100000 in
set_option maxHeartbeats 1000000 in
theorem clone_any (u : Value) (l : List Nat) (hl : l.length ≤ 16384) (w : World) (hu : Reads w 1 u l.length (encN .u32 l)) :
    Calls Tryz.prog 69 #[u] w fun e w' => ∃ v, e = .returned v ∧ w'.ownsRow w.heap.size 25 1 v l.length (encN .u32 l) ∧ Below w.heap.size w w' := by
  obtain ⟨i0, hi, hz0, hz1, hz2⟩ := info_parts info32
  have hb := run_bs23_0
  have q23 : ∀ (w : World) (a : Option Addr) (n c n' c' : Nat), (binOp .eql 23 (.slice a n c) (.slice none n' c')).run Tryz.prog w = .ok (.bool a.isNone) w := fun w a n c n' c' => Lib.run_eql_slice_nil w _ _ a n c n' c' Tryz.underlying23
  obtain ⟨a, cap, rfl, h1, h2, h3, hn, hp⟩ := hu
  cases a with
  | none =>
    obtain rfl := hn rfl
    have h0 : l.length = 0 := by omega
    obtain rfl : l = [] := List.eq_nil_of_length_eq_zero h0
    clear hp hn h1
    go_enter Tryz.func69, Tryz.ntmps69
    go_wp2
    exact bodyPost_ret (v := .slice none 0 0) (by simp [results, Tryz.results69, go_sem]) rfl ⟨_, rfl, World.ownsRow_nil _ _ _ _, Below.refl _ _⟩
  | some ad =>
    have Hu := Lib.hid (show Reads (w.alloc (.cells #[] 25)) 1 (.slice (some ad) l.length cap) l.length (encN .u32 l) from Reads.below ⟨some ad, cap, rfl, h1, h2, h3, hn, hp⟩ (Bel.new _ _))
    have Hone := Lib.hid (encN_one .u32 l)
    have Hoe := Lib.hid (own_empty w 25 1)
    clear hp hn h1
    go_enter Tryz.func69, Tryz.ntmps69
    go_wp2_with ((with_reducible refine wpList_append_reads (o := ⟨some 7, .call { callee := .builtin .append, args := #[.tmp 5, .tmp 6], argTypes := #[23, 23] }, _, _, _, none⟩) rfl _ _ 23 rfl 25 i0 (.int .u32 0) 1 4 Tryz.underlying23 hi hz0 hz1 hz2 ?_ ?_ _ 0 [] ?_ Hoe.out _ l.length (encN .u32 l) ?_ Hu.out Hone.out ?_ ?_ ?_); rfl; decide; rfl; rfl; (unfold maxLen; omega); omega; intro v1 w1 o1 g1)
    have hx : w1.ownsRow w.heap.size 25 1 v1 l.length (encN .u32 l) := by
      have := own_from o1 (B := w.heap.size) (fun g e => by
        rcases g1.2 g e with h' | h'
        · cases h'; exact Nat.le_refl _
        · simp at h'; omega)
      simpa using this
    have hbw : Below w.heap.size w w1 := (Bel.new w (.cells #[] 25)).grown g1.1 (by simp) (fun g e => by cases e; exact Nat.le_refl _)
    exact bodyPost_ret (v := v1) (by simp [results, Tryz.results69, go_sem]) rfl ⟨_, rfl, hx, hbw⟩
def tgtsAt (n : Nat) (ts : List (List Nat)) (i : Int) : List Nat := if 0 ≤ i ∧ i < n then ts.getD i.toNat [] else []
set_option maxRecDepth 100000 in
set_option maxHeartbeats 1000000 in
theorem targets_any {w : World} {B b : Nat} {vp vo vt : Value} {ps : List (Nat × Nat × Nat)} {ofs : List Nat} {us : List Value} {ts : List (List Nat)} (h : PAt w B b vp vo vt ps ofs us ts) (hpt : ts.length = ps.length)
    (hln : ∀ j, (ts.getD j []).length ≤ 16384) (i : Int) :
    Calls Tryz.prog 147 #[.pointer (some ⟨b, 0, none⟩), .int .i64 i] w fun e w' => ∃ v, e = .returned v ∧ w'.ownsRow w.heap.size 25 1 v (tgtsAt ps.length ts i).length (encN .u32 (tgtsAt ps.length ts i)) ∧ Below w.heap.size w w' := by
  have hp := proc_any h i
  have hz39 := zero39
  unfold procN procV at hp
  unfold tgtsAt
  by_cases hc : 0 ≤ i ∧ i < ps.length
  · rw [if_pos hc] at hp ⊢
    obtain ⟨k, rfl⟩ := Int.eq_ofNat_of_zero_le hc.1
    rw [Int.toNat_natCast] at hp ⊢
    have hk : k < ps.length := by omega
    have hul : us.length = ts.length := h.ul
    obtain ⟨q, cv, hvt, -, -⟩ := own_start h.ot (by omega)
    subst hvt
    obtain ⟨u, hu⟩ : ∃ u, us[k]? = some u := ⟨_, List.getElem?_eq_getElem (by omega)⟩
    have hqc : w.cell? ⟨q, k, none⟩ = some u := by rw [h.ot.cellAt k (by omega)]; exact hu
    have hou := h.ou k u _ hu (getD_at _ k [] (by omega))
    have hlk := hln k
    have hc2 := h.c2
    have hcl := fun (W : World) (hb : Below w.heap.size w W) => clone_any u (ts.getD k []) hlk W (Reads.own (own_below hou hb) Nat.one_pos)
    generalize ps.getD k (0, 0, 0) = pr at *
    generalize ts.getD k [] = l at *
    obtain ⟨p0, p1, p2⟩ := pr
    rw [hul, hpt] at hc2
    have Hp := Lib.hid hp
    have Hcl := Lib.hid hcl
    have hki : (k : Int) < (ps.length : Int) := by omega
    have hk0 : (0 : Int) ≤ (k : Int) := by omega
    have hbl := World.block_lt_of_cell? _ _ hc2
    have hql := World.block_lt_of_cell? _ _ hqc
    clear h hp hcl hou hu hul hln hc
    go_enter Tryz.func147, Tryz.ntmps147
    go_wp2_with fail
    refine Hp.out.mono ?_
    rintro e w1 ⟨rfl, hb1⟩
    have hc2 := (hb1.cell (p := ⟨b, 2, none⟩) hbl).trans hc2
    have hqc := (hb1.cell (p := ⟨q, k, none⟩) hql).trans hqc
    have hbl := World.block_lt_of_cell? _ _ hc2
    have hql := World.block_lt_of_cell? _ _ hqc
    have Hb1 := Lib.hid hb1
    clear hb1 Hp
    go_wp2_with fail
    refine (Hcl.out _ (Bel.al Hb1.out _)).mono ?_
    rintro e w2 ⟨v, rfl, ho, hb2⟩
    have HX := Lib.hid (show w2.ownsRow w.heap.size 25 1 v l.length (encN .u32 l) ∧ Below w.heap.size w w2 from ⟨own_from (own_base ho) (fun g e => by have := (ho.lt g e).1; have := (Bel.al Hb1.out (.cells #[.int .u32 p0, .int .u32 p1, .int .u32 p2, .int .i64 0] 71)).size; omega), Bel.tr (Bel.al Hb1.out _) hb2⟩)
    clear ho hb2 Hcl
    go_wp2
    exact bodyPost_ret (v := v) (by simp [results, Tryz.results147, go_sem]) rfl ⟨_, rfl, HX.out⟩
  · rw [if_neg hc] at hp ⊢
    have Hp := Lib.hid hp
    clear h hp hln hc
    go_enter Tryz.func147, Tryz.ntmps147
    go_wp2_with fail
    refine Hp.out.mono ?_
    rintro e w1 ⟨rfl, hb1⟩
    have Hb1 := Lib.hid hb1
    clear hb1 Hp
    go_wp2
    exact bodyPost_ret (v := .slice none 0 0) (by simp [results, Tryz.results147, go_sem]) rfl ⟨_, rfl, World.ownsRow_nil _ _ _ _, Bel.al Hb1.out _⟩
def endsK (K : Nat) : Bool := K == 3 || K == 4 || K == 8
def faultK (K : Nat) (p : Nat × Nat × Nat) (i a : Nat) : Nat :=
  if K = 6 ∧ (a % 4 ≠ 0 ∨ a = 0 ∨ 4096 < a) then 131
  else if K = 7 then (if a ≠ p.2.2 then 131 else 0)
  else if (K = 3 ∨ K = 2) ∧ insideN p a = false then 132
  else if i + 1 = p.2.1 ∧ endsK K = false then 133 else 0
def faultN (p : Nat × Nat × Nat) (i : Nat) (ins : Nat × Nat) : Nat := faultK (kindOf ins.1) p i ins.2
theorem kind_lt (k : Nat) : kindOf k ≤ 8 := by
  by_cases h : k < 60
  · have : ∀ k < 60, kindOf k ≤ 8 := by decide +kernel
    exact this k h
  · have : rowOf k = ([], 0, 0, 0, 0, 0) := by
      unfold rowOf; rw [List.getD_eq_getElem?_getD, List.getElem?_eq_none (by show 60 ≤ k; omega)]; rfl
    simp [kindOf, this]
theorem cell_new5 (w : World) (a b c d e f : Value) (t : TypeId) : (w.alloc (.cells #[a, b, c, d, e, f] t)).cell? ⟨w.heap.size, 5, none⟩ = some f := by simp [go_sem]
set_option maxRecDepth 100000 in
set_option maxHeartbeats 2000000 in
theorem fault_any (p : Nat × Nat × Nat) (i o a : Nat) (hi : i < 4294967295) (ho : o < 256) (ha : a < 4294967296) (w : World) :
    Calls Tryz.prog 74 #[procV p, .int .u32 i, .agg #[.int .u8 o, .int .u32 a]] w fun e w' => e = .returned (.int .i64 (faultN p i (o, a))) ∧ Below w.heap.size w w' := by
  have h1 := fun W => info_any o ho W
  have hz := zero26
  unfold zeroRow at hz
  have hin := fun W => inside_any p a W
  unfold faultN
  have hk := kind_lt o
  unfold rowVal rowCells at h1
  simp only
  generalize kindOf o = K at *
  generalize isOp o = b at *
  generalize wordOf o = wd at *
  generalize widthOf o = wi at *
  generalize mostOf o = mo at *
  generalize takesOf o = ta at *
  generalize givesOf o = gi at *
  have key : ∀ c : Nat, faultK K p i a = c → Calls Tryz.prog 74 #[procV p, .int .u32 i, .agg #[.int .u8 o, .int .u32 a]] w fun e w' => e = .returned (.int .i64 c) ∧ Below w.heap.size w w' := by
    intro c hc
    obtain ⟨p0, p1, p2⟩ := p
    have H1 := Lib.hid h1
    have HI := Lib.hid hin
    clear h1 hin
    have hK : K = 0 ∨ K = 1 ∨ K = 2 ∨ K = 3 ∨ K = 4 ∨ K = 5 ∨ K = 6 ∨ K = 7 ∨ K = 8 := by omega
    unfold procV at *
    simp only at *
    rcases hK with rfl | rfl | rfl | rfl | rfl | rfl | rfl | rfl | rfl
    all_goals
      go_enter Tryz.func74, Tryz.ntmps74
      go_wp2_with fail
      refine (H1.out _).mono ?_
      rintro e w1 ⟨rfl, hb⟩
      have hs1 : w.heap.size + 1 < w1.heap.size := by have := hb.size; simp at this; omega
      have hs0 : w.heap.size < w1.heap.size := by omega
      have q0 : w1.cell? ⟨w.heap.size, 0, none⟩ = some (.int .u32 p0) := (hb.cell (p := ⟨w.heap.size, 0, none⟩) (by simp; omega)).trans (by simp [go_sem])
      have q1 : w1.cell? ⟨w.heap.size, 1, none⟩ = some (.int .u32 p1) := (hb.cell (p := ⟨w.heap.size, 1, none⟩) (by simp; omega)).trans (by simp [go_sem])
      have q2 : w1.cell? ⟨w.heap.size, 2, none⟩ = some (.int .u32 p2) := (hb.cell (p := ⟨w.heap.size, 2, none⟩) (by simp; omega)).trans (by simp [go_sem])
      have q3 : w1.cell? ⟨w.heap.size, 3, none⟩ = some (.int .i64 0) := (hb.cell (p := ⟨w.heap.size, 3, none⟩) (by simp; omega)).trans (by simp [go_sem])
      have q4 : w1.cell? ⟨w.heap.size + 1, 0, none⟩ = some (.int .u8 o) := (hb.cell (p := ⟨w.heap.size + 1, 0, none⟩) (by simp)).trans (by simp [go_sem])
      have q5 : w1.cell? ⟨w.heap.size + 1, 1, none⟩ = some (.int .u32 a) := (hb.cell (p := ⟨w.heap.size + 1, 1, none⟩) (by simp)).trans (by simp [go_sem])
      have Hb := Lib.hid (Bel.tr (Bel.al (Bel.new w (.cells #[.int .u32 p0, .int .u32 p1, .int .u32 p2, .int .i64 0] 71)) (.cells #[.int .u8 o, .int .u32 a] 62)) hb)
      clear H1 hb
      have hin := Lib.hid (fun W => inside_any (p0, p1, p2) a W)
      clear HI
      cases hia : insideN (p0, p1, p2) a
      all_goals
        rw [hia] at hin
        have Hia := Lib.hid hia
        have Hc := Lib.hid hc
        clear hia hc
        go_wp2_with (go_at_call 109; refine (hin.out _).mono ?_; rintro e w2 ⟨rfl, hb2⟩; have q1 := (hb2.cell (p := ⟨w.heap.size, 1, none⟩) (by simp; omega)).trans (((Bel.new w1 _).cell (p := ⟨w.heap.size, 1, none⟩) hs0).trans q1); have hs2 : w1.heap.size < w2.heap.size := Bel.lt hb2; have q9 : w2.cell? ⟨w1.heap.size, 5, none⟩ = _ := (hb2.cell (p := ⟨w1.heap.size, 5, none⟩) (by simp)).trans (cell_new5 _ _ _ _ _ _ _ _))
        all_goals
          go_ret
          refine ⟨ret_intE ?_, ?_⟩
          · have hc := Hc.out
            have hia := Hia.out
            clear q0 q1 q2 q3 q4 q5 hin hz Hc Hia Hb
            rw [← hc]
            try simp only [beq_iff_eq, beq_eq_false_iff_ne, bne_iff_ne, bne_eq_false_iff_eq, ne_eq] at *
            unfold faultK endsK
            rw [hia]
            first
              | rfl
              | (simp; done)
              | (simp; omega)
              | (simp; split <;> omega)
              | (simp; split <;> (simp; omega))
              | (simp; rw [if_neg (by omega)]; split <;> omega)
          · first
              | exact Bel.al Hb.out _
              | exact Bel.tr (Bel.al Hb.out _) hb2
  exact key _ rfl
theorem endAt_getD (ps : List (Nat × Nat × Nat)) (e j : Nat) (h0 : 0 < ps.length) : (endAt ps e).getD j (0, 0, 0) = if j = ps.length - 1 then ((ps.getD j (0, 0, 0)).1, e, (ps.getD j (0, 0, 0)).2.2) else ps.getD j (0, 0, 0) := by
  unfold endAt
  rw [List.getD_eq_getElem?_getD, List.getElem?_set]
  by_cases h : j = ps.length - 1
  · subst h
    rw [if_pos rfl, if_pos (by omega), if_pos rfl]; rfl
  · rw [if_neg (fun e => h e.symm), if_neg h, List.getD_eq_getElem?_getD]
theorem getD_snoc {α : Type} (l : List α) (x d : α) (j : Nat) : (l ++ [x]).getD j d = if j < l.length then l.getD j d else if j = l.length then x else d := by
  rw [List.getD_eq_getElem?_getD]
  by_cases h : j < l.length
  · rw [if_pos h, List.getElem?_append_left h, List.getD_eq_getElem?_getD]
  · rw [if_neg h, List.getElem?_append_right (by omega)]
    by_cases e : j = l.length
    · rw [if_pos e, e]; simp
    · rw [if_neg e, List.getElem?_eq_none (by simp; omega)]; rfl
structure Tiles (code : List (Nat × Nat)) (k : Nat) (P : List (Nat × Nat × Nat)) (O : List Nat) : Prop where
  ol : O.length = k
  pos : 0 < k → 0 < P.length
  lt : ∀ i, i < k → O.getD i 0 < P.length
  lo : ∀ i, i < k → (P.getD (O.getD i 0) (0, 0, 0)).1 ≤ i ∧ i < (P.getD (O.getD i 0) (0, 0, 0)).2.1
  en : ∀ i, i < k → ((code.getD i (0, 0)).1 = 3 ↔ (P.getD (O.getD i 0) (0, 0, 0)).1 = i)
  mid : ∀ j, j < P.length → ∀ i, (P.getD j (0, 0, 0)).1 ≤ i → i < (P.getD j (0, 0, 0)).2.1 → O.getD i 0 = j
  bd : ∀ j, j < P.length → (P.getD j (0, 0, 0)).1 < (P.getD j (0, 0, 0)).2.1 ∧ (P.getD j (0, 0, 0)).2.1 ≤ k
  fr : ∀ j, j < P.length → (P.getD j (0, 0, 0)).2.2 = (code.getD (P.getD j (0, 0, 0)).1 (0, 0)).2
  first : (P.getD 0 (0, 0, 0)).1 = 0
  next : ∀ j, j + 1 < P.length → (P.getD (j + 1) (0, 0, 0)).1 = (P.getD j (0, 0, 0)).2.1
  last : 0 < P.length → (P.getD (P.length - 1) (0, 0, 0)).2.1 = k
theorem tiles_enter {code : List (Nat × Nat)} {k : Nat} {P : List (Nat × Nat × Nat)} {O : List Nat} (h : Tiles code k P O) (h3 : (code.getD k (0, 0)).1 = 3) (P' : List (Nat × Nat × Nat)) (O' : List Nat)
    (hl : P'.length = P.length + 1) (hP : ∀ j, P'.getD j (0, 0, 0) = if j < P.length then P.getD j (0, 0, 0) else if j = P.length then (k, k + 1, (code.getD k (0, 0)).2) else (0, 0, 0))
    (hol : O'.length = k + 1) (hO : ∀ i, O'.getD i 0 = if i < k then O.getD i 0 else if i = k then P.length else 0) : Tiles code (k + 1) P' O' := by
  have hPn : P'.getD P.length (0, 0, 0) = (k, k + 1, (code.getD k (0, 0)).2) := by rw [hP, if_neg (Nat.lt_irrefl _), if_pos rfl]
  have hOk : O'.getD k 0 = P.length := by rw [hO, if_neg (Nat.lt_irrefl _), if_pos rfl]
  have hPo : ∀ j, j < P.length → P'.getD j (0, 0, 0) = P.getD j (0, 0, 0) := fun j hj => by rw [hP, if_pos hj]
  have hOo : ∀ i, i < k → O'.getD i 0 = O.getD i 0 := fun i hi => by rw [hO, if_pos hi]
  refine ⟨hol, fun _ => by omega, ?_, ?_, ?_, ?_, ?_, ?_, ?_, ?_, ?_⟩
  · intro i hi
    by_cases e : i = k
    · subst e; rw [hOk]; omega
    · rw [hOo i (by omega)]; have := h.lt i (by omega); omega
  · intro i hi
    by_cases e : i = k
    · subst e; rw [hOk, hPn]; exact ⟨Nat.le_refl _, Nat.lt_succ_self _⟩
    · rw [hOo i (by omega), hPo _ (h.lt i (by omega))]; exact h.lo i (by omega)
  · intro i hi
    by_cases e : i = k
    · subst e; rw [hOk, hPn]; exact ⟨fun _ => rfl, fun _ => h3⟩
    · rw [hOo i (by omega), hPo _ (h.lt i (by omega))]; exact h.en i (by omega)
  · intro j hj i h1 h2
    by_cases e : j = P.length
    · subst e
      rw [hPn] at h1 h2
      have : i = k := by simp only at h1 h2; omega
      rw [this, hOk]
    · have hj' : j < P.length := by omega
      rw [hPo j hj'] at h1 h2
      have := (h.bd j hj').2
      rw [hOo i (by omega)]
      exact h.mid j hj' i h1 h2
  · intro j hj
    by_cases e : j = P.length
    · subst e; rw [hPn]; exact ⟨Nat.lt_succ_self _, Nat.le_refl _⟩
    · have hj' : j < P.length := by omega
      rw [hPo j hj']; have := h.bd j hj'; omega
  · intro j hj
    by_cases e : j = P.length
    · subst e; rw [hPn]
    · have hj' : j < P.length := by omega
      rw [hPo j hj']; exact h.fr j hj'
  · by_cases e : 0 < P.length
    · rw [hPo 0 e]; exact h.first
    · have hk : k = 0 := by
        cases k with
        | zero => rfl
        | succ k => exact absurd (h.pos (by omega)) e
      have := hP 0
      rw [if_neg e, if_pos (by omega)] at this
      rw [this]; exact hk
  · intro j hj
    by_cases e : j + 1 = P.length
    · rw [e, hPn, hPo j (by omega)]
      have := h.last (by omega)
      rw [← e, Nat.add_sub_cancel] at this
      exact this.symm
    · rw [hPo (j + 1) (by omega), hPo j (by omega)]; exact h.next j (by omega)
  · intro _
    rw [hl, Nat.add_sub_cancel, hPn]
theorem tiles_other {code : List (Nat × Nat)} {k : Nat} {P : List (Nat × Nat × Nat)} {O : List Nat} (h : Tiles code k P O) (h3 : (code.getD k (0, 0)).1 ≠ 3) (hk : 0 < P.length) (P' : List (Nat × Nat × Nat)) (O' : List Nat)
    (hl : P'.length = P.length) (hP : ∀ j, P'.getD j (0, 0, 0) = if j = P.length - 1 then ((P.getD j (0, 0, 0)).1, k + 1, (P.getD j (0, 0, 0)).2.2) else P.getD j (0, 0, 0))
    (hol : O'.length = k + 1) (hO : ∀ i, O'.getD i 0 = if i < k then O.getD i 0 else if i = k then P.length - 1 else 0) : Tiles code (k + 1) P' O' := by
  have hPn : P'.getD (P.length - 1) (0, 0, 0) = ((P.getD (P.length - 1) (0, 0, 0)).1, k + 1, (P.getD (P.length - 1) (0, 0, 0)).2.2) := by rw [hP, if_pos rfl]
  have hOk : O'.getD k 0 = P.length - 1 := by rw [hO, if_neg (Nat.lt_irrefl _), if_pos rfl]
  have hPo : ∀ j, j ≠ P.length - 1 → P'.getD j (0, 0, 0) = P.getD j (0, 0, 0) := fun j hj => by rw [hP, if_neg hj]
  have hP1 : ∀ j, (P'.getD j (0, 0, 0)).1 = (P.getD j (0, 0, 0)).1 := fun j => by rw [hP]; split <;> rfl
  have hP3 : ∀ j, (P'.getD j (0, 0, 0)).2.2 = (P.getD j (0, 0, 0)).2.2 := fun j => by rw [hP]; split <;> rfl
  have hOo : ∀ i, i < k → O'.getD i 0 = O.getD i 0 := fun i hi => by rw [hO, if_pos hi]
  have hls := h.last hk
  have hbl := h.bd (P.length - 1) (by omega)
  have hP2 : ∀ j, (P.getD j (0, 0, 0)).2.1 ≤ (P'.getD j (0, 0, 0)).2.1 ∨ ¬ j < P.length := fun j => by
    by_cases hj : j < P.length
    · left; rw [hP]; split
      · rename_i e; show _ ≤ k + 1; have := (h.bd j hj).2; omega
      · exact Nat.le_refl _
    · exact .inr hj
  refine ⟨hol, fun _ => by omega, ?_, ?_, ?_, ?_, ?_, ?_, ?_, ?_, ?_⟩
  · intro i hi
    by_cases e : i = k
    · subst e; rw [hOk]; omega
    · rw [hOo i (by omega)]; have := h.lt i (by omega); omega
  · intro i hi
    by_cases e : i = k
    · subst e; rw [hOk, hPn]; simp only; omega
    · rw [hOo i (by omega), hP1]
      have hlt := h.lt i (by omega)
      have h1 := h.lo i (by omega)
      have h2 := hP2 (O.getD i 0)
      omega
  · intro i hi
    by_cases e : i = k
    · subst e; rw [hOk, hPn]; simp only
      exact ⟨fun e => absurd e h3, fun e => by omega⟩
    · rw [hOo i (by omega), hP1]; exact h.en i (by omega)
  · intro j hj i h1 h2
    rw [hl] at hj
    by_cases e : j = P.length - 1
    · subst e
      rw [hPn] at h1 h2
      simp only at h1 h2
      by_cases e2 : i = k
      · rw [e2, hOk]
      · rw [hOo i (by omega)]
        exact h.mid _ hj i h1 (by omega)
    · rw [hPo j e] at h1 h2
      have := (h.bd j hj).2
      rw [hOo i (by omega)]
      exact h.mid j hj i h1 h2
  · intro j hj
    rw [hl] at hj
    by_cases e : j = P.length - 1
    · subst e; rw [hPn]; simp only; omega
    · rw [hPo j e]; have := h.bd j hj; omega
  · intro j hj
    rw [hl] at hj
    rw [hP3, hP1]; exact h.fr j hj
  · rw [hP1]; exact h.first
  · intro j hj
    rw [hl] at hj
    rw [hP1, hPo j (by omega)]; exact h.next j hj
  · intro _
    rw [hl, hPn]
theorem tiles {code : List (Nat × Nat)} (h0 : (code.getD 0 (0, 0)).1 = 3) (k : Nat) : Tiles code k (psTo code k) (ofTo code k) := by
  induction k with
  | zero =>
    refine ⟨rfl, fun h => absurd h (Nat.lt_irrefl _), ?_, ?_, ?_, ?_, ?_, ?_, rfl, ?_, ?_⟩
    · intro i hi; exact absurd hi (Nat.not_lt_zero i)
    · intro i hi; exact absurd hi (Nat.not_lt_zero i)
    · intro i hi; exact absurd hi (Nat.not_lt_zero i)
    · intro i hi; exact absurd hi (Nat.not_lt_zero i)
    · intro i hi; exact absurd hi (Nat.not_lt_zero i)
    · intro i hi; exact absurd hi (Nat.not_lt_zero i)
    · intro i hi; exact absurd hi (Nat.not_lt_zero _)
    · intro h; exact absurd h (Nat.not_lt_zero _)
  | succ k ih =>
    have hol : (ofTo code (k + 1)).length = k + 1 := by show (ofTo code k ++ [_]).length = _; rw [List.length_append, ih.ol]; rfl
    by_cases h3 : (code.getD k (0, 0)).1 = 3
    · have e1 : psTo code (k + 1) = endAt (psTo code k ++ [(k, 0, (code.getD k (0, 0)).2)]) (k + 1) := by
        show cutStep _ _ _ = _; unfold cutStep; rw [if_pos h3]
      have hlen : (psTo code (k + 1)).length = (psTo code k).length + 1 := by rw [e1, endAt_length, List.length_append]; rfl
      refine tiles_enter ih h3 _ _ hlen ?_ hol ?_
      · intro j
        rw [e1, endAt_getD _ _ _ (by rw [List.length_append]; exact Nat.succ_pos _), List.length_append, getD_snoc]
        have el : (psTo code k).length + [(k, 0, (code.getD k (0, 0)).2)].length - 1 = (psTo code k).length := rfl
        rw [el]
        by_cases a : j < (psTo code k).length
        · rw [if_neg (Nat.ne_of_lt a), if_pos a, if_pos a]
        · rw [if_neg a, if_neg a]
          by_cases b : j = (psTo code k).length
          · rw [if_pos b, if_pos b, if_pos b]
          · rw [if_neg b, if_neg b, if_neg b]
      · intro i
        show (ofTo code k ++ [_]).getD i 0 = _
        rw [getD_snoc, ih.ol, hlen, Nat.add_sub_cancel]
    · have e1 : psTo code (k + 1) = endAt (psTo code k) (k + 1) := by
        show cutStep _ _ _ = _; unfold cutStep; rw [if_neg h3]
      have hk : 0 < (psTo code k).length := ih.pos (by
        cases k with
        | zero => exact absurd h0 h3
        | succ k => omega)
      have hlen : (psTo code (k + 1)).length = (psTo code k).length := by rw [e1, endAt_length]
      refine tiles_other ih h3 hk _ _ hlen ?_ hol ?_
      · intro j
        rw [e1, endAt_getD _ _ _ hk]
      · intro i
        show (ofTo code k ++ [_]).getD i 0 = _
        rw [getD_snoc, ih.ol, hlen]
theorem aimTo_getD (ofs js : List Nat) (n k j : Nat) (hr : ofs.getD (js.getD k 0) 0 < n) : (aimTo ofs js n (k + 1)).getD j [] = if j = ofs.getD (js.getD k 0) 0 then (aimTo ofs js n k).getD j [] ++ [js.getD k 0] else (aimTo ofs js n k).getD j [] := by
  show ((aimTo ofs js n k).set _ _).getD j [] = _
  rw [List.getD_eq_getElem?_getD, List.getElem?_set]
  by_cases h : j = ofs.getD (js.getD k 0) 0
  · subst h
    rw [if_pos rfl, if_pos (by rw [aimTo_length]; exact hr), if_pos rfl]; rfl
  · rw [if_neg (fun e => h e.symm), if_neg h, List.getD_eq_getElem?_getD]
structure Tgts (ofs js : List Nat) (k : Nat) (ts : List (List Nat)) : Prop where
  of_mem : ∀ j t, t ∈ ts.getD j [] → ∃ i, i < k ∧ t = js.getD i 0 ∧ ofs.getD t 0 = j
  mem : ∀ i, i < k → js.getD i 0 ∈ ts.getD (ofs.getD (js.getD i 0) 0) []
  sorted : ∀ j, (ts.getD j []).Pairwise (· < ·)
theorem tgts {ps : List (Nat × Nat × Nat)} {ofs js : List Nat} {n : Nat} (hof : ∀ x, x < ofs.length → ofs.getD x 0 < n) (k : Nat) (h : GoodTo ps ofs js k) : Tgts ofs js k (aimTo ofs js n k) := by
  have hup : ∀ a b, a < b → b < k → js.getD a 0 < js.getD b 0 := by
    intro a b hab hb
    induction b with
    | zero => omega
    | succ b ih =>
      have := h (b + 1) hb
      simp only [aimOk, Bool.and_eq_true, Bool.or_eq_true, decide_eq_true_eq] at this
      have h1 : js.getD b 0 < js.getD (b + 1) 0 := by
        rcases this.1 with h | h
        · omega
        · exact h
      by_cases e : a = b
      · rw [e]; exact h1
      · have := ih (by omega) (by omega); omega
  have hlt : ∀ a, a < k → js.getD a 0 < ofs.length := fun a ha => by
    have := h a ha
    simp only [aimOk, Bool.and_eq_true, decide_eq_true_eq] at this
    exact this.2.1
  clear h
  induction k with
  | zero =>
    have e : ∀ j, (aimTo ofs js n 0).getD j [] = [] := fun j => by
      show (List.replicate n []).getD j [] = []
      rw [List.getD_eq_getElem?_getD, List.getElem?_replicate]; split <;> rfl
    refine ⟨fun j t ht => ?_, fun i hi => absurd hi (Nat.not_lt_zero i), fun j => ?_⟩
    · rw [e] at ht; cases ht
    · rw [e]; exact List.Pairwise.nil
  | succ k ih =>
    have I := ih (fun a b hab hb => hup a b hab (by omega)) (fun a ha => hlt a (by omega))
    have hr := hof _ (hlt k (by omega))
    refine ⟨fun j t ht => ?_, fun i hi => ?_, fun j => ?_⟩
    · rw [aimTo_getD _ _ _ _ _ hr] at ht
      split at ht
      · rename_i e
        rcases List.mem_append.1 ht with ht | ht
        · obtain ⟨i, h1, h2⟩ := I.of_mem j t ht; exact ⟨i, by omega, h2⟩
        · rw [List.mem_singleton.1 ht]; exact ⟨k, by omega, rfl, e.symm⟩
      · obtain ⟨i, h1, h2⟩ := I.of_mem j t ht; exact ⟨i, by omega, h2⟩
    · rw [aimTo_getD _ _ _ _ _ hr]
      by_cases e : i = k
      · subst e; rw [if_pos rfl]; simp
      · have := I.mem i (by omega)
        split
        · exact List.mem_append_left _ this
        · exact this
    · rw [aimTo_getD _ _ _ _ _ hr]
      split
      · rw [List.pairwise_append]
        refine ⟨I.sorted j, List.pairwise_singleton _ _, fun a ha b hb => ?_⟩
        obtain ⟨i, h1, h2, _⟩ := I.of_mem j a ha
        rw [List.mem_singleton.1 hb, h2]
        exact hup i k h1 (by omega)
      · exact I.sorted j
def NamesU (w : World) (B : Nat) (v : Value) (ats : List Nat) : Prop := ∃ a cap, v = .slice a ats.length cap ∧ ats.length ≤ cap ∧ cap ≤ maxLen ∧ (∀ k, ats.getD k 0 < 4294967296) ∧
  (0 < ats.length → ∃ b off, a = some ⟨b, off, none⟩ ∧ b < B ∧ ∀ k, k < ats.length → ∃ s, w.cell? ⟨b, off + k * 2, none⟩ = some (.string s) ∧ w.cell? ⟨b, off + k * 2 + 1, none⟩ = some (.int .u32 (ats.getD k 0)))
theorem RowU.calm {w W : World} {B : Nat} {v : Value} {l : List Nat} (h : RowU w w.heap.size v l) (hb : Below w.heap.size w W) (hB : w.heap.size ≤ B) : RowU W B v l := by
  obtain ⟨a, cap, h1, h2, h3, h4, h5⟩ := h
  refine ⟨a, cap, h1, h2, h3, h4, fun h0 => ?_⟩
  obtain ⟨b, off, e, hlt, hc⟩ := h5 h0
  exact ⟨b, off, e, Nat.lt_of_lt_of_le hlt hB, fun k hk => (hb.cell (p := ⟨b, off + k, none⟩) hlt).trans (hc k hk)⟩
def faultAt (code : List (Nat × Nat)) (i : Nat) : Nat := faultN ((psTo code code.length).getD ((ofTo code code.length).getD i 0) (0, 0, 0)) i (code.getD i (0, 0))
def Firsts (code : List (Nat × Nat)) : Prop := 0 < code.length ∧ (code.getD 0 (0, 0)).1 = 3
inductive FindBad (code : List (Nat × Nat)) (js ats : List Nat) : Nat → Nat → Prop where
  | enc (h : (encRes code).2.2 ≠ 0) : FindBad code js ats (encRes code).2.1 (encRes code).2.2
  | first (he : (encRes code).2.2 = 0) (h : ¬ Firsts code) : FindBad code js ats 0 130
  | fault (he : (encRes code).2.2 = 0) (h3 : Firsts code) (i : Nat) (hi : i < code.length) (hj : ∀ j, j < i → faultAt code j = 0) (hf : faultAt code i ≠ 0) : FindBad code js ats i (faultAt code i)
  | jump (he : (encRes code).2.2 = 0) (h3 : Firsts code) (hall : ∀ j, j < code.length → faultAt code j = 0) (i : Nat) (hi : i < js.length) (hg : GoodTo (psTo code code.length) (ofTo code code.length) js i) (hb : aimOk (psTo code code.length) (ofTo code code.length) js i = false) : FindBad code js ats i 134
  | name (he : (encRes code).2.2 = 0) (h3 : Firsts code) (hall : ∀ j, j < code.length → faultAt code j = 0) (hg : GoodTo (psTo code code.length) (ofTo code code.length) js js.length) (i : Nat) (hi : i < ats.length) (hj : ∀ j, j < i → beginsN (psTo code code.length) (ofTo code code.length) (ats.getD j 0) = true) (hb : beginsN (psTo code code.length) (ofTo code code.length) (ats.getD i 0) = false) : FindBad code js ats i 135
structure FindOk (code : List (Nat × Nat)) (js ats : List Nat) : Prop where
  he : (encRes code).2.2 = 0
  h3 : Firsts code
  hall : ∀ j, j < code.length → faultAt code j = 0
  hg : GoodTo (psTo code code.length) (ofTo code code.length) js js.length
  hn : ∀ j, j < ats.length → beginsN (psTo code code.length) (ofTo code code.length) (ats.getD j 0) = true
def Found (code : List (Nat × Nat)) (js : List Nat) (w : World) (B b : Nat) : Prop :=
  ∃ vp vo vt us tag, AimI w B b vp vo vt (psTo code code.length) (ofTo code code.length) us (aimTo (ofTo code code.length) js (psTo code code.length).length js.length) tag
def FindPost (code : List (Nat × Nat)) (js ats : List Nat) (w : World) (e : Ending) (w' : World) : Prop :=
  Below w.heap.size w w' ∧ ((∃ i c, e = .returned (.tuple #[.pointer none, .int .i64 (i : Nat), .int .i64 (c : Nat)]) ∧ FindBad code js ats i c) ∨
    ∃ b B, e = .returned (.tuple #[.pointer (some ⟨b, 0, none⟩), .int .i64 0, .int .i64 0]) ∧ FindOk code js ats ∧ w.heap.size ≤ B ∧ B ≤ w'.heap.size ∧ Found code js w' B b)
theorem encRes_short {code : List (Nat × Nat)} (h : (encRes code).2.2 = 0) : code.length ≤ 16384 := by
  by_cases h1 : 16384 < code.length
  · rw [encRes_many h1] at h; cases h
  · omega
set_option maxRecDepth 100000 in
set_option maxHeartbeats 4000000 in
theorem find_any {w : World} (vc vj vn : Value) (code : List (Nat × Nat)) (js ats : List Nat) (hc : Instrs w vc code) (hj : RowU w w.heap.size vj js) (hn : NamesU w w.heap.size vn ats) :
    Calls Tryz.prog 38 #[vc, vj, vn] w (FindPost code js ats w) := by
  have hlt := hc.lt
  have henc := encode_any vc code w hc
  have hmx : Tryz.prog.follows .mixedOrders = true := by kernel_rfl
  obtain ⟨a, cap, hvc, hlc, hcm, hnil, hp⟩ := hc.opened
  have hlm : code.length ≤ 9223372036854775807 := by unfold maxLen at hcm; omega
  have Henc := Lib.hid henc
  have Hc := Lib.hid hc
  have Hj := Lib.hid hj
  have Hn := Lib.hid hn
  have Hlt := Lib.hid hlt
  have Hp := Lib.hid hp
  clear hp hnil hlt hj hn hc henc
  subst hvc
  go_enter Tryz.func38, Tryz.ntmps38
  go_wp2_with fail
  refine Henc.out.mono ?_
  rintro e w1 ⟨ve, rfl, hown, hgr, hnil⟩
  have Hb1 := Lib.hid (show Below w.heap.size w w1 from hgr.bel)
  clear hown hgr hnil Henc
  by_cases h0 : (encRes code).2.2 = 0
  · have Hs := Lib.hid (encRes_short h0)
    have He := Lib.hid h0
    rw [h0]
    generalize (encRes code).2.1 = ei
    clear h0
    by_cases h1 : code.length = 0
    · have HB := Lib.hid (show FindBad code js ats 0 130 from .first He.out (fun h => by have := h.1; omega))
      have hz : (code.length : Int) = 0 := by omega
      go_wp2
      exact bodyPost_ret (v := .tuple #[.pointer none, .int .i64 ((0 : Nat) : Int), .int .i64 ((130 : Nat) : Int)]) (by simp [results, Tryz.results38, go_sem]) rfl ⟨Hb1.out, .inl ⟨_, _, rfl, HB.out⟩⟩
    · obtain ⟨cb, coff, rfl, hcb, hcc⟩ := Hp.out (by omega)
      have hlen : (code.length : Int) ≠ 0 := by omega
      have hlen2 : (0 : Int) < (code.length : Int) := by omega
      have hq0 := (Hb1.out.cell (p := ⟨cb, coff + 0 * 2, none⟩) hcb).trans (hcc 0 (by omega)).1
      rw [Nat.zero_mul, Nat.add_zero] at hq0
      by_cases h3 : (code.getD 0 (0, 0)).1 = 3
      · have H3 := Lib.hid (show Firsts code from ⟨by omega, h3⟩)
        rw [h3] at hq0
        have Hcc := Lib.hid hcc
        have Hcut := Lib.hid (cut_any _ code Hs.out (by omega) h3 w1 (Hc.out.below Hb1.out))
        clear hcc h3
        go_wp2_with fail
        refine Hcut.out.mono ?_
        rintro e w2 ⟨b, vp, vo, vt, tag, rfl, hA, hb2⟩
        have HA := Lib.hid hA
        have Hb2 := Lib.hid hb2
        have hcb1 : cb < w1.heap.size := Nat.lt_of_lt_of_le hcb Hb1.out.size
        clear hA hb2 Hcut hq0
        go_wp2_with fail
        have HT := Lib.hid (tiles (code := code) H3.out.2 code.length)
        obtain ⟨n, hnn⟩ : ∃ n, n = code.length := ⟨_, rfl⟩
        have HN := Lib.hid hnn
        rw [← hnn] at hlc hlm hlen hlen2 h1 ⊢
        clear hnn
        have hcl := Lib.hid (fun (wr : World) (hb : Below w2.heap.size w2 wr) (k : Nat) (hk : k < n) => (show wr.cell? ⟨cb, coff + k * 2, none⟩ = some (.int .u8 (code.getD k (0, 0)).1) ∧ wr.cell? ⟨cb, coff + k * 2 + 1, none⟩ = some (.int .u32 (code.getD k (0, 0)).2) from by
          have hx := Bel.tr Hb2.out hb
          obtain ⟨e1, e2⟩ := Hcc.out k (by rw [← HN.out]; exact hk)
          exact ⟨(hx.cell (p := ⟨cb, coff + k * 2, none⟩) hcb1).trans ((Hb1.out.cell (p := ⟨cb, coff + k * 2, none⟩) hcb).trans e1), (hx.cell (p := ⟨cb, coff + k * 2 + 1, none⟩) hcb1).trans ((Hb1.out.cell (p := ⟨cb, coff + k * 2 + 1, none⟩) hcb).trans e2)⟩))
        go_loopw [44] (fun i wr => ∃ (k : Nat), k ≤ n ∧ i = .int .i64 k ∧ Below w2.heap.size w2 wr ∧ ∀ j, j < k → faultAt code j = 0) (fun i _ => n - (intOf i).toNat)
        case atStart => exact ⟨0, by omega, rfl, Below.refl _ _, fun j h => absurd h (Nat.not_lt_zero j)⟩
        case round =>
          obtain ⟨k, hk, rfl, hbw, hgd⟩ := hrel
          by_cases hlt' : k < n
          · obtain ⟨hq1, hq2⟩ := hcl.out wr hbw k hlt'
            obtain ⟨hlo, hla⟩ := Hlt.out k
            have hfa : faultAt code k = faultN ((psTo code code.length).getD ((ofTo code code.length).getD k 0) (0, 0, 0)) k (code.getD k (0, 0)) := rfl
            have hI := (HA.out.calm hbw).at_
            have hr := HT.out.lt k (by rw [← HN.out]; exact hlt')
            have hol := HT.out.ol.trans HN.out.symm
            have hki : (k : Int) < (n : Int) := by omega
            have hk0 : (0 : Int) ≤ (k : Int) := by omega
            have hs := Hs.out
            rw [← HN.out] at hs
            generalize code.getD k (0, 0) = ins at *
            obtain ⟨o, x⟩ := ins
            simp only at hq1 hq2 hlo hla
            generalize psTo code code.length = P at *
            generalize ofTo code code.length = O at *
            obtain ⟨ao, co, hvo, -, -, hog⟩ := own_sl hI.oo
            obtain ⟨ap, cp, hvp, -, -, hpg⟩ := own_sl hI.op
            obtain ⟨go, hao, hgo, hoc⟩ := hog (by omega)
            obtain ⟨gp, hap, hgp, hpc⟩ := hpg (by omega)
            have hqo := hoc k (by rw [encN_length]; omega)
            rw [encN_at _ _ _ (by omega)] at hqo
            have hl4 := encP_length P
            obtain ⟨r0, r1, r2, r3⟩ := encP_at P (O.getD k 0) hr
            rw [← hpc _ (by omega)] at r0 r1 r2 r3
            have hcp := hI.c0
            have hc1 := hI.c1
            rw [hvp, hap] at hcp
            rw [hvo, hao] at hc1
            clear hog hpg hoc hpc hl4 hvo hvp hao hap hI
            have hfu := fun W => fault_any (P.getD (O.getD k 0) (0, 0, 0)) k o x (by omega) hlo hla W
            generalize O.getD k 0 = r at *
            generalize P.getD r (0, 0, 0) = pr at *
            obtain ⟨p0, p1, p2⟩ := pr
            simp only at r0 r1 r2
            rw [← hfa] at hfu
            have Hfa := Lib.hid hfa
            obtain ⟨f, hf⟩ : ∃ f, f = faultAt code k := ⟨_, rfl⟩
            rw [← hf] at hfu
            have Hf := Lib.hid hf
            obtain ⟨np, hnp⟩ : ∃ np, np = P.length := ⟨_, rfl⟩
            rw [← hnp] at hcp hr
            rw [hol] at hc1
            have hwk : IntKind.u32.wrap (k : Int) = (k : Int) := u32_wrap k (by omega)
            have hb3 := Bel.new wr (.cells #[.int .u8 o, .int .u32 x] 62)
            have hw0 := cells_new2 wr (.int .u8 o) (.int .u32 x) 62
            have bel := fun {bb j : Nat} {v : Value} (h : wr.cell? ⟨bb, j, none⟩ = some v) => BelW.cell ((hb3.cell (p := ⟨bb, j, none⟩) (World.block_lt_of_cell? _ _ h)).trans h)
            have tcp := bel hcp
            have tc1 := bel hc1
            have tqo := bel hqo
            have tr0 := bel r0
            have tr1 := bel r1
            have tr2 := bel r2
            have tr3 := bel r3
            have ti0 := BelW.cell hw0.1
            have ti1 := BelW.cell hw0.2
            have hne : Nonempty (BelW (wr.alloc (.cells #[.int .u8 o, .int .u32 x] 62))) := ⟨⟨_, Below.refl _ _⟩⟩
            have hr0 : (0 : Int) ≤ (r : Int) := by omega
            have hr1 : (r : Int) < (np : Int) := by omega
            have Hgd := Lib.hid hgd
            have Hbw := Lib.hid (Bel.tr hbw hb3)
            have Hfu := Lib.hid hfu
            clear hgd hfa hf hfu hbw hb3 hw0 bel hcp hc1 hqo r0 r1 r2 r3 hnp hr hol hgo hgp
            go_wp2_with fail
            clear hq1 hq2
            refine wp_region_quietB hmx (by kernel_rfl) ?_
            repeat (go_big_quiet_step ((go_at_call 74; exact (Hfu.out _).mono fun e w' h => ⟨h.1, BelW.to _ h.2⟩)))
            refine wpQuiet_nil ?_
            rintro w3 ⟨⟨w4, hb4⟩, rfl⟩
            have Hb4 := Lib.hid (Bel.tr Hbw.out hb4)
            clear tcp tc1 tqo tr0 tr1 tr2 tr3 ti0 ti1 hne hb4 Hfu
            by_cases hf0 : f = 0
            · subst hf0
              go_wp2
              go_roundw
              case rel => exact ⟨k + 1, by omega, by go_num, Hb4.out, fun j hj => by
                by_cases e : j = k
                · rw [e]; exact Hf.out.symm
                · exact Hgd.out j (by omega)⟩
              case measure => simp [intOf]; omega
            · have hd : ((f : Int) == 0) = false := by simp; omega
              have hd2 : ((f : Int) != 0) = true := by simp; omega
              have HB := Lib.hid (show FindBad code js ats k f from by
                rw [Hf.out]; exact .fault He.out H3.out k (by rw [← HN.out]; exact hlt') Hgd.out (by rw [← Hf.out]; exact hf0))
              go_wp2
              exact bodyPost_ret (v := .tuple #[.pointer none, .int .i64 k, .int .i64 f]) (by simp [results, Tryz.results38, go_sem]) rfl ⟨Hb1.out.trans ((Bel.tr Hb2.out Hb4.out).mono Hb1.out.size), .inl ⟨_, _, rfl, HB.out⟩⟩
          · obtain rfl : k = n := by omega
            have Hall := Lib.hid (show ∀ j, j < code.length → faultAt code j = 0 from fun j hj => hgd j (by rw [HN.out]; exact hj))
            have hA := HA.out.calm hbw
            have hs1 := Hb1.out.size
            have hs2 := Hb2.out.size
            have hs3 := hbw.size
            have hbx := Bel.tr Hb2.out hbw
            have Haim := Lib.hid (aim_any hA (fun x hx => HT.out.lt x (by rw [← HT.out.ol]; exact hx)) (by rw [HT.out.ol]; exact Hs.out) (Nat.le_trans hs2 hs3) vj js (Hj.out.calm (Hb1.out.trans (hbx.mono hs1)) hs1))
            have Hbw := Lib.hid (Hb1.out.trans (hbx.mono hs1))
            have Hw1 := Lib.hid (show w.heap.size ≤ w1.heap.size from hs1)
            have Hw2 := Lib.hid (Nat.le_trans hs2 hs3)
            clear hgd hbw hA hs1 hs2 hs3 hbx HA
            go_wp2_with fail
            refine Haim.out.mono ?_
            rintro e w3 ⟨hb3, hx⟩
            have Hb3 := Lib.hid (show Below w.heap.size w w3 from Hbw.out.trans (hb3.mono Hw1.out))
            have Hw3 := Lib.hid (Nat.le_trans Hw2.out hb3.size)
            clear hb3 Haim
            rcases hx with ⟨rfl, hg, us, tag, hA⟩ | ⟨i, hi, rfl, hg, hbad⟩
            · have Hg := Lib.hid hg
              have HA := Lib.hid hA
              clear hg hA
              obtain ⟨an, capn, rfl, hnc, hncm, hnl, hnp⟩ := Hn.out
              have hnm : ats.length ≤ 9223372036854775807 := by unfold maxLen at hncm; omega
              have Hnp := Lib.hid hnp
              have Hnl := Lib.hid hnl
              clear hnp hnl
              obtain ⟨m, hmm⟩ : ∃ m, m = ats.length := ⟨_, rfl⟩
              have HM := Lib.hid hmm
              rw [← hmm] at hnc hnm ⊢
              clear hmm
              go_wp2_with fail
              go_loopw [83] (fun i wr => ∃ (k : Nat), k ≤ m ∧ i = .int .i64 k ∧ Below w3.heap.size w3 wr ∧ ∀ j, j < k → beginsN (psTo code code.length) (ofTo code code.length) (ats.getD j 0) = true) (fun i _ => m - (intOf i).toNat)
              case atStart => exact ⟨0, by omega, rfl, Below.refl _ _, fun j h => absurd h (Nat.not_lt_zero j)⟩
              case round =>
                obtain ⟨k, hk, rfl, hbw, hgd⟩ := hrel
                by_cases hlt' : k < m
                · obtain ⟨nb, noff, rfl, hnb, hnc2⟩ := Hnp.out (by rw [← HM.out]; omega)
                  obtain ⟨sn, hs1, hs2⟩ := hnc2 k (by rw [← HM.out]; exact hlt')
                  have hnb3 : nb < w3.heap.size := Nat.lt_of_lt_of_le hnb Hb3.out.size
                  have hq1 := (hbw.cell (p := ⟨nb, noff + k * 2, none⟩) hnb3).trans ((Hb3.out.cell (p := ⟨nb, noff + k * 2, none⟩) hnb).trans hs1)
                  have hq2 := (hbw.cell (p := ⟨nb, noff + k * 2 + 1, none⟩) hnb3).trans ((Hb3.out.cell (p := ⟨nb, noff + k * 2 + 1, none⟩) hnb).trans hs2)
                  have hxl := Hnl.out k
                  have hI := (HA.out.calm (Bel.tr hbw (Bel.new wr (.cells #[.string sn, .int .u32 (ats.getD k 0)] 136)))).at_
                  have hbg := begins_any hI (fun x hx => HT.out.lt x (by rw [← HT.out.ol]; exact hx)) (ats.getD k 0) hxl
                  have hki : (k : Int) < (m : Int) := by omega
                  have hk0 : (0 : Int) ≤ (k : Int) := by omega
                  have Hgd := Lib.hid hgd
                  have Hbw := Lib.hid (Bel.tr hbw (Bel.new wr (.cells #[.string sn, .int .u32 (ats.getD k 0)] 136)))
                  obtain ⟨bv, hbv⟩ : ∃ bv, bv = beginsN (psTo code code.length) (ofTo code code.length) (ats.getD k 0) := ⟨_, rfl⟩
                  rw [← hbv] at hbg
                  have Hbv := Lib.hid hbv
                  have Hbg := Lib.hid hbg
                  clear hgd hbw hI hbg hbv hs1 hs2 hnc2
                  obtain ⟨x, hx⟩ : ∃ x, x = ats.getD k 0 := ⟨_, rfl⟩
                  have Hxe := Lib.hid hx
                  rw [← hx] at Hbv Hbg Hbw hq2 hxl
                  clear hx
                  go_wp2_with fail
                  refine Hbg.out.mono ?_
                  rintro e w4 ⟨rfl, hb4⟩
                  have Hb4 := Lib.hid (Bel.tr Hbw.out hb4)
                  clear Hbg hb4 hq1 hq2
                  cases bv with
                  | false =>
                    have HB := Lib.hid (show FindBad code js ats k 135 from .name He.out H3.out Hall.out Hg.out k (by rw [← HM.out]; exact hlt') Hgd.out (by rw [← Hxe.out]; exact Hbv.out.symm))
                    go_wp2
                    exact bodyPost_ret (v := .tuple #[.pointer none, .int .i64 k, .int .i64 ((135 : Nat) : Int)]) (by simp [results, Tryz.results38, go_sem]) rfl ⟨Hb3.out.trans (Hb4.out.mono Hb3.out.size), .inl ⟨_, _, rfl, HB.out⟩⟩
                  | true =>
                    go_wp2
                    go_roundw
                    case rel => exact ⟨k + 1, by omega, by go_num, Hb4.out, fun j hj => by
                      by_cases e : j = k
                      · rw [e, ← Hxe.out]; exact Hbv.out.symm
                      · exact Hgd.out j (by omega)⟩
                    case measure => simp [intOf]; omega
                · obtain rfl : k = m := by omega
                  have Hx := Lib.hid (show FindPost code js ats w (.returned (.tuple #[.pointer (some ⟨b, 0, none⟩), .int .i64 0, .int .i64 0])) wr from
                    ⟨Hb3.out.trans (hbw.mono Hb3.out.size), .inr ⟨b, w1.heap.size, rfl, ⟨He.out, H3.out, Hall.out, Hg.out, fun j hj => hgd j (by rw [HM.out]; exact hj)⟩, Hw1.out, Nat.le_trans Hw3.out hbw.size, vp, vo, vt, us, tag, HA.out.calm hbw⟩⟩)
                  clear hbw hgd
                  go_wp2
                  exact bodyPost_ret (v := .tuple #[.pointer (some ⟨b, 0, none⟩), .int .i64 0, .int .i64 0]) (by simp [results, Tryz.results38, go_sem]) rfl Hx.out
            · have HB := Lib.hid (show FindBad code js ats i 134 from .jump He.out H3.out Hall.out i hi hg hbad)
              clear hg hbad
              go_wp2
              exact bodyPost_ret (v := .tuple #[.pointer none, .int .i64 i, .int .i64 ((134 : Nat) : Int)]) (by simp [results, Tryz.results38, go_sem]) rfl ⟨Hb3.out, .inl ⟨_, _, rfl, HB.out⟩⟩
      · have HB := Lib.hid (show FindBad code js ats 0 130 from .first He.out (fun h => h3 h.2))
        generalize (code.getD 0 (0, 0)).1 = o at *
        have hd : ((o : Int) == 3) = false := by simp; omega
        have hd2 : ((o : Int) != 3) = true := by simp; omega
        clear hcc
        go_wp2
        exact bodyPost_ret (v := .tuple #[.pointer none, .int .i64 ((0 : Nat) : Int), .int .i64 ((130 : Nat) : Int)]) (by simp [results, Tryz.results38, go_sem]) rfl ⟨Hb1.out, .inl ⟨_, _, rfl, HB.out⟩⟩
  · have HB := Lib.hid (show FindBad code js ats (encRes code).2.1 (encRes code).2.2 from .enc h0)
    generalize (encRes code).2.1 = ei at *
    generalize (encRes code).2.2 = ec at *
    have hd : ((ec : Int) == 0) = false := by simp; omega
    go_wp2
    exact bodyPost_ret (v := .tuple #[.pointer none, .int .i64 ei, .int .i64 ec]) (by simp [results, Tryz.results38, go_sem]) rfl ⟨Hb1.out, .inl ⟨_, _, rfl, HB.out⟩⟩
def encX (l : List (ByteArray × Nat)) : List Value := l.flatMap fun p => [.string p.1, .int .u32 p.2]
theorem encX_length (l : List (ByteArray × Nat)) : (encX l).length = l.length * 2 := by
  induction l with
  | nil => rfl
  | cons p l ih => rw [show encX (p :: l) = [.string p.1, .int .u32 p.2] ++ encX l from rfl, List.length_append, ih]; simp; omega
theorem encX_append (l m : List (ByteArray × Nat)) : encX (l ++ m) = encX l ++ encX m := by simp [encX]
theorem encX_at (l : List (ByteArray × Nat)) : ∀ k, k < l.length → (encX l)[k * 2]? = some (.string (l.getD k (ByteArray.empty, 0)).1) ∧ (encX l)[k * 2 + 1]? = some (.int .u32 (l.getD k (ByteArray.empty, 0)).2) := by
  induction l with
  | nil => intro k h; simp at h
  | cons p l ih =>
    intro k h
    have e : encX (p :: l) = [.string p.1, .int .u32 p.2] ++ encX l := rfl
    cases k with
    | zero => rw [e]; exact ⟨rfl, rfl⟩
    | succ k =>
      obtain ⟨h1, h2⟩ := ih k (by simpa using h)
      rw [e]
      have f : ∀ t, ([.string p.1, .int .u32 p.2] ++ encX l : List Value)[(k + 1) * 2 + t]? = (encX l)[k * 2 + t]? := fun t => by
        rw [List.getElem?_append_right (by simp; omega)]; congr 1; simp; omega
      exact ⟨(f 0).trans h1, (f 1).trans h2⟩
theorem encX_one (l : List (ByteArray × Nat)) : ∀ u ∈ encX l, u.oneCell' = true := by
  intro u h
  obtain ⟨p, _, hp⟩ := List.mem_flatMap.1 h
  rcases List.mem_cons.1 hp with rfl | hp
  · rfl
  · rw [List.mem_singleton.1 hp]; rfl
def Texts (w : World) (v : Value) (l : List (ByteArray × Nat)) : Prop := Reads w 2 v l.length (encX l) ∧ ∀ k, (l.map (·.2)).getD k 0 < 4294967296
theorem Texts.below {w w' : World} {v : Value} {l : List (ByteArray × Nat)} (h : Texts w v l) (hb : Below w.heap.size w w') : Texts w' v l := ⟨h.1.below hb, h.2⟩
theorem getD_snd (l : List (ByteArray × Nat)) (k : Nat) : (l.map (·.2)).getD k 0 = (l.getD k (ByteArray.empty, 0)).2 := by
  rw [List.getD_eq_getElem?_getD, List.getD_eq_getElem?_getD, List.getElem?_map]
  cases l[k]? <;> rfl
theorem Texts.names {w : World} {v : Value} {l : List (ByteArray × Nat)} (h : Texts w v l) : NamesU w w.heap.size v (l.map (·.2)) := by
  obtain ⟨⟨a, cap, hv, hl, hn, hm, ha, hp⟩, hlt⟩ := h
  refine ⟨a, cap, by rw [List.length_map]; exact hv, by rw [List.length_map]; exact hn, hm, hlt, fun h0 => ?_⟩
  rw [List.length_map] at h0
  obtain ⟨b, off, e, hb, hc⟩ := hp h0
  refine ⟨b, off, e, hb, fun k hk => ?_⟩
  rw [List.length_map] at hk
  obtain ⟨e1, e2⟩ := encX_at l k hk
  exact ⟨_, (hc (k * 2) (by rw [encX_length]; omega)).trans e1, by rw [getD_snd, Nat.add_assoc]; exact (hc (k * 2 + 1) (by rw [encX_length]; omega)).trans e2⟩
def Words (w : World) (v : Value) (l : List Nat) : Prop := Reads w 1 v l.length (encN .u32 l) ∧ ∀ k, l.getD k 0 < 4294967296
theorem Words.below {w w' : World} {v : Value} {l : List Nat} (h : Words w v l) (hb : Below w.heap.size w w') : Words w' v l := ⟨h.1.below hb, h.2⟩
theorem Words.rowu {w : World} {v : Value} {l : List Nat} (h : Words w v l) : RowU w w.heap.size v l := by
  obtain ⟨⟨a, cap, hv, hl, hn, hm, ha, hp⟩, hlt⟩ := h
  refine ⟨a, cap, hv, hn, hm, hlt, fun h0 => ?_⟩
  obtain ⟨b, off, e, hb, hc⟩ := hp h0
  exact ⟨b, off, e, hb, fun k hk => by rw [hc k (by rw [encN_length]; exact hk), encN_at _ l k hk]⟩
structure Img where
  code : List (Nat × Nat)
  js : List Nat
  data : List Nat
  zero : Nat
  stack : Nat
  lx : List (ByteArray × Nat)
structure ImgAt (w : World) (vc vj vd vn : Value) (m : Img) : Prop where
  c : Instrs w vc m.code
  j : Words w vj m.js
  d : Bytes w vd m.data
  n : Texts w vn m.lx
  z : m.zero < 4294967296
  s : m.stack < 4294967296
theorem ImgAt.below {w w' : World} {vc vj vd vn : Value} {m : Img} (h : ImgAt w vc vj vd vn m) (hb : Below w.heap.size w w') : ImgAt w' vc vj vd vn m :=
  ⟨h.c.below hb, h.j.below hb, h.d.below hb, h.n.below hb, h.z, h.s⟩
theorem ret_boolE {a b : Bool} (h : a = b) : Ending.returned (.bool a) = .returned (.bool b) := by rw [h]
def stackN (n : Nat) : Bool := decide (n % 4 = 0) && (decide (64 ≤ n) && decide (n ≤ 32768))
def roomN (m : Img) : Nat := m.data.length + m.zero + m.stack
def gtS (a b : ByteArray) : Bool := !(Op.bytesLess a.toList b.toList || a.toList == b.toList)
def nameN (lx : List (ByteArray × Nat)) (i : Nat) : Bool :=
  decide (1 ≤ (lx.getD i (ByteArray.empty, 0)).1.size) && (decide ((lx.getD i (ByteArray.empty, 0)).1.size ≤ 32) && (decide (i = 0) || gtS (lx.getD i (ByteArray.empty, 0)).1 (lx.getD (i - 1) (ByteArray.empty, 0)).1))
set_option maxRecDepth 100000 in
set_option maxHeartbeats 1000000 in
theorem stackMay_any (n : Nat) (w : World) : Calls Tryz.prog 65 #[.int .u32 n] w fun e w' => e = .returned (.bool (stackN n)) ∧ w = w' := by
  have hm2 : ((n : Int) % 4 == 0) = decide (n % 4 = 0) := by rw [Bool.eq_iff_iff]; simp; omega
  unfold stackN
  go_enter Tryz.func65, Tryz.ntmps65
  go_wp2
  all_goals
    go_ret
    exact ⟨ret_boolE (by rw [Bool.eq_iff_iff]; simp; try omega), rfl⟩
set_option maxRecDepth 100000 in
set_option maxHeartbeats 1000000 in
theorem room_any (d z s : Nat) (hd : d ≤ 9223372036854775807) (hz : z < 4294967296) (hs : s < 4294967296) (w : World) : Calls Tryz.prog 66 #[.int .i64 d, .int .u32 z, .int .u32 s] w fun e w' => e = .returned (.int .u64 ((d + z + s : Nat) : Int)) ∧ w = w' := by
  go_enter Tryz.func66, Tryz.ntmps66
  go_wp2
  go_ret
  exact ⟨ret_intE (by omega), rfl⟩
set_option maxRecDepth 100000 in
set_option maxHeartbeats 1000000 in
theorem nameMay_any (v : Value) (lx : List (ByteArray × Nat)) (i : Nat) (hi : i < lx.length) (w : World) (hv : Texts w v lx) :
    Calls Tryz.prog 67 #[v, .int .i64 i] w fun e w' => e = .returned (.bool (nameN lx i)) ∧ w = w' := by
  obtain ⟨⟨a, cap, rfl, hl, hlc, hcm, hn, hp⟩, -⟩ := hv
  obtain ⟨b, off, rfl, hb, hc⟩ := hp (by omega)
  have hm : lx.length ≤ 9223372036854775807 := by unfold maxLen at hcm; omega
  have hq := (hc (i * 2) (by rw [encX_length]; omega)).trans (encX_at lx i hi).1
  have hq' : ∀ _ : 0 < i, w.cell? ⟨b, off + (i - 1) * 2, none⟩ = some (.string (lx.getD (i - 1) (ByteArray.empty, 0)).1) := fun h => (hc ((i - 1) * 2) (by rw [encX_length]; omega)).trans (encX_at lx (i - 1) (by omega)).1
  unfold nameN
  generalize (lx.getD i (ByteArray.empty, 0)).1 = s at *
  generalize (lx.getD (i - 1) (ByteArray.empty, 0)).1 = t at *
  have hi1 : (i : Int) < (lx.length : Int) := by omega
  have hi0 : (0 : Int) ≤ (i : Int) := by omega
  clear hc hp hl
  by_cases h0 : i = 0
  · subst h0
    clear hq'
    simp only [Nat.zero_mul, Nat.add_zero] at hq
    go_enter Tryz.func67, Tryz.ntmps67
    go_wp2
    all_goals
      go_ret
      refine ⟨ret_boolE ?_, rfl⟩
      first
        | (rw [decide_eq_false (by omega : ¬ 1 ≤ s.size)]; simp)
        | (rw [decide_eq_true (by omega : 1 ≤ s.size), decide_eq_false (by omega : ¬ s.size ≤ 32)]; simp)
        | (rw [decide_eq_true (by omega : 1 ≤ s.size), decide_eq_true (by omega : s.size ≤ 32)]; simp; done)
        | (rw [decide_eq_true (by omega : 1 ≤ s.size), decide_eq_true (by omega : s.size ≤ 32), hd]; simp)
  · have hq1 := hq' (by omega)
    clear hq'
    have h0' : ((i : Int) == 0) = false := by simp; omega
    have hi2 : (0 : Int) ≤ (i : Int) - 1 := by omega
    have hi3 : (i : Int) - 1 < (lx.length : Int) := by omega
    have hi4 : ((i : Int) - 1).toNat = i - 1 := by omega
    have hd : decide (i = 0) = false := decide_eq_false h0
    unfold gtS
    go_enter Tryz.func67, Tryz.ntmps67
    go_wp2
    all_goals
      go_ret
      refine ⟨ret_boolE ?_, rfl⟩
      first
        | (rw [decide_eq_false (by omega : ¬ 1 ≤ s.size)]; simp)
        | (rw [decide_eq_true (by omega : 1 ≤ s.size), decide_eq_false (by omega : ¬ s.size ≤ 32)]; simp)
        | (rw [decide_eq_true (by omega : 1 ≤ s.size), decide_eq_true (by omega : s.size ≤ 32)]; simp; done)
        | (rw [decide_eq_true (by omega : 1 ≤ s.size), decide_eq_true (by omega : s.size ≤ 32), hd]; simp)
def firstBad (l : List (Nat × Nat)) : Nat := ((l.map fun i => checkN i.1 i.2).find? (· != 0)).getD 0
def namesN (lx : List (ByteArray × Nat)) : Bool := (List.range lx.length).all fun i => nameN lx i
def checkI (m : Img) : Nat :=
  if 16384 < m.code.length then 73
  else if firstBad m.code ≠ 0 then firstBad m.code
  else if 16384 < m.js.length then 86
  else if !(stackN m.stack) || decide (65536 < roomN m) then 85
  else if 64 < m.lx.length then 87
  else if namesN m.lx then 0 else 87
theorem firstBad_none {l : List (Nat × Nat)} (h : ∀ k, k < l.length → checkN (l.getD k (0, 0)).1 (l.getD k (0, 0)).2 = 0) : firstBad l = 0 := by
  unfold firstBad
  rw [List.find?_eq_none.2]
  · rfl
  · intro x hx
    obtain ⟨i, hi, rfl⟩ := List.mem_map.1 hx
    obtain ⟨k, hk, rfl⟩ := List.mem_iff_getElem.1 hi
    have := h k hk
    rw [List.getD_eq_getElem?_getD, List.getElem?_eq_getElem hk] at this
    simp only [Option.getD_some] at this
    rw [this]; decide
theorem firstBad_at {l : List (Nat × Nat)} {k : Nat} (hk : k < l.length) (h : ∀ j, j < k → checkN (l.getD j (0, 0)).1 (l.getD j (0, 0)).2 = 0) (hb : checkN (l.getD k (0, 0)).1 (l.getD k (0, 0)).2 ≠ 0) : firstBad l = checkN (l.getD k (0, 0)).1 (l.getD k (0, 0)).2 := by
  induction l generalizing k with
  | nil => simp at hk
  | cons i l ih =>
    unfold firstBad
    rw [List.map_cons, List.find?_cons]
    cases k with
    | zero =>
      have : checkN i.1 i.2 ≠ 0 := hb
      have h1 : (checkN i.1 i.2 != 0) = true := by simpa using this
      rw [h1]; rfl
    | succ k =>
      have h0 : checkN i.1 i.2 = 0 := h 0 (by omega)
      have h1 : (checkN i.1 i.2 != 0) = false := by rw [h0]; rfl
      rw [h1]
      exact ih (by simpa using hk) (fun j hj => h (j + 1) (by omega)) hb
theorem firstBad_all {l : List (Nat × Nat)} (h : firstBad l = 0) (k : Nat) (hk : k < l.length) : checkN (l.getD k (0, 0)).1 (l.getD k (0, 0)).2 = 0 := by
  induction k using Nat.strongRecOn with
  | _ k ih =>
    by_cases e : checkN (l.getD k (0, 0)).1 (l.getD k (0, 0)).2 = 0
    · exact e
    · exact (firstBad_at hk (fun j hj => ih j hj (by omega)) e).symm.trans h
theorem namesN_iff (lx : List (ByteArray × Nat)) : namesN lx = true ↔ ∀ i, i < lx.length → nameN lx i = true := by
  unfold namesN
  rw [List.all_eq_true]
  exact ⟨fun h i hi => h i (List.mem_range.2 hi), fun h i hi => h i (List.mem_range.1 hi)⟩
theorem cells_new6 (w : World) (a b c d e f : Value) (t : TypeId) : (w.alloc (.cells #[a, b, c, d, e, f] t)).cell? ⟨w.heap.size, 0, none⟩ = some a ∧ (w.alloc (.cells #[a, b, c, d, e, f] t)).cell? ⟨w.heap.size, 1, none⟩ = some b ∧ (w.alloc (.cells #[a, b, c, d, e, f] t)).cell? ⟨w.heap.size, 2, none⟩ = some c ∧
    (w.alloc (.cells #[a, b, c, d, e, f] t)).cell? ⟨w.heap.size, 3, none⟩ = some d ∧ (w.alloc (.cells #[a, b, c, d, e, f] t)).cell? ⟨w.heap.size, 4, none⟩ = some e ∧ (w.alloc (.cells #[a, b, c, d, e, f] t)).cell? ⟨w.heap.size, 5, none⟩ = some f :=
  ⟨by simp [go_sem], by simp [go_sem], by simp [go_sem], by simp [go_sem], by simp [go_sem], by simp [go_sem]⟩
theorem checkI_1 {m : Img} (h : 16384 < m.code.length) : checkI m = 73 := by unfold checkI; rw [if_pos h]
theorem checkI_2 {m : Img} (h : ¬ 16384 < m.code.length) (h2 : firstBad m.code ≠ 0) : checkI m = firstBad m.code := by unfold checkI; rw [if_neg h, if_pos h2]
theorem checkI_3 {m : Img} (h : ¬ 16384 < m.code.length) (h2 : firstBad m.code = 0) (h3 : 16384 < m.js.length) : checkI m = 86 := by unfold checkI; rw [if_neg h, if_neg (by simpa using h2), if_pos h3]
theorem checkI_4 {m : Img} (h : ¬ 16384 < m.code.length) (h2 : firstBad m.code = 0) (h3 : ¬ 16384 < m.js.length) (h4 : stackN m.stack = false ∨ 65536 < roomN m) : checkI m = 85 := by
  unfold checkI; rw [if_neg h, if_neg (by simpa using h2), if_neg h3, if_pos (by simpa using h4)]
theorem checkI_5 {m : Img} (h : ¬ 16384 < m.code.length) (h2 : firstBad m.code = 0) (h3 : ¬ 16384 < m.js.length) (h4 : stackN m.stack = true) (h5 : ¬ 65536 < roomN m) (h6 : 64 < m.lx.length) : checkI m = 87 := by
  unfold checkI; rw [if_neg h, if_neg (by simpa using h2), if_neg h3, if_neg (by simp [h4]; omega), if_pos h6]
theorem checkI_6 {m : Img} (h : ¬ 16384 < m.code.length) (h2 : firstBad m.code = 0) (h3 : ¬ 16384 < m.js.length) (h4 : stackN m.stack = true) (h5 : ¬ 65536 < roomN m) (h6 : ¬ 64 < m.lx.length) : checkI m = if namesN m.lx then 0 else 87 := by
  unfold checkI; rw [if_neg h, if_neg (by simpa using h2), if_neg h3, if_neg (by simp [h4]; omega), if_neg h6]
theorem ret_natE {k : IntKind} {a b : Nat} (h : b = a) : Ending.returned (.int k (a : Int)) = .returned (.int k (b : Int)) := by rw [h]
set_option maxRecDepth 100000 in
set_option maxHeartbeats 4000000 in
theorem imgCheck_any (vc vj vd vn : Value) (m : Img) (w : World) (h : ImgAt w vc vj vd vn m) :
    Calls Tryz.prog 36 #[.agg #[vc, vj, vd, .int .u32 m.zero, .int .u32 m.stack, vn]] w fun e w' => e = .returned (.int .i64 (checkI m)) ∧ Below w.heap.size w w' := by
  have H := Lib.hid h
  have hb0 := Bel.new w (.cells #[vc, vj, vd, .int .u32 m.zero, .int .u32 m.stack, vn] 28)
  have Hb0 := Lib.hid hb0
  have HC := Lib.hid (cells_new6 w vc vj vd (.int .u32 m.zero) (.int .u32 m.stack) vn 28)
  have hlt0 : w.heap.size < (w.alloc (.cells #[vc, vj, vd, .int .u32 m.zero, .int .u32 m.stack, vn] 28)).heap.size := by simp
  obtain ⟨ac, cc, rfl, hlc, hcm, -, hpc⟩ := h.c.opened
  obtain ⟨aj, cj, rfl, -, hlj, hjm, -, -⟩ := h.j.1
  obtain ⟨ad, cd, rfl, -, hld, hdm, -, -⟩ := h.d.1
  obtain ⟨an, cn, rfl, -, hln, hnm, -, -⟩ := h.n.1
  have hcl : m.code.length ≤ 9223372036854775807 := by unfold maxLen at hcm; omega
  have hjl : m.js.length ≤ 9223372036854775807 := by unfold maxLen at hjm; omega
  have hdl : m.data.length ≤ 9223372036854775807 := by unfold maxLen at hdm; omega
  have hnl : m.lx.length ≤ 9223372036854775807 := by unfold maxLen at hnm; omega
  have Hpc := Lib.hid hpc
  have hz := h.z
  have hs := h.s
  clear h hpc hb0
  obtain ⟨r, hr⟩ : ∃ r, r = checkI m := ⟨_, rfl⟩
  rw [← hr]
  have HR := Lib.hid hr
  clear hr
  by_cases h1 : 16384 < m.code.length
  · have h1' : (16384 : Int) < (m.code.length : Int) := by omega
    go_enter Tryz.func36, Tryz.ntmps36
    go_wp2
    go_ret
    exact ⟨ret_natE (a := 73) (HR.out.trans (checkI_1 h1)), Hb0.out⟩
  · have h1' : ¬ (16384 : Int) < (m.code.length : Int) := by omega
    go_enter Tryz.func36, Tryz.ntmps36
    go_wp2_with fail
    obtain ⟨W0, hW0⟩ : ∃ W0, W0 = w.alloc (.cells #[.slice ac m.code.length cc, .slice aj m.js.length cj, .slice ad m.data.length cd, .int .u32 m.zero, .int .u32 m.stack, .slice an m.lx.length cn] 28) := ⟨_, rfl⟩
    rw [← hW0] at HC Hb0 hlt0 ⊢
    clear hW0
    go_loopw [14] (fun i wr => ∃ k : Nat, k ≤ m.code.length ∧ i = .int .i64 k ∧ Below W0.heap.size W0 wr ∧ ∀ j, j < k → checkN (m.code.getD j (0, 0)).1 (m.code.getD j (0, 0)).2 = 0) (fun i _ => m.code.length - (intOf i).toNat)
    case atStart => exact ⟨0, by omega, rfl, Below.refl _ _, fun j h => absurd h (Nat.not_lt_zero j)⟩
    case round =>
      obtain ⟨k, hk, rfl, hb, hgd⟩ := hrel
      by_cases hlt : k < m.code.length
      · obtain ⟨b, off, rfl, hbl, hc⟩ := Hpc.out (by omega)
        obtain ⟨q1, q2⟩ := hc k hlt
        have hbw := Bel.tr Hb0.out hb
        have q1 := (hbw.cell (p := ⟨b, off + k * 2, none⟩) hbl).trans q1
        have q2 := (hbw.cell (p := ⟨b, off + k * 2 + 1, none⟩) hbl).trans q2
        have hol := (H.out.c.lt k).1
        have hbad := fun h => firstBad_at (l := m.code) hlt hgd h
        have hgd' : checkN (m.code.getD k (0, 0)).1 (m.code.getD k (0, 0)).2 = 0 → ∀ j, j < k + 1 → checkN (m.code.getD j (0, 0)).1 (m.code.getD j (0, 0)).2 = 0 := fun h j hj => by
          by_cases e : j = k
          · subst e; exact h
          · exact hgd j (by omega)
        have hbk := Bel.new wr (.cells #[.int .u8 (m.code.getD k (0, 0)).1, .int .u32 (m.code.getD k (0, 0)).2] 62)
        have Hbk := Lib.hid (Bel.tr hb hbk)
        generalize m.code.getD k (0, 0) = x at *
        obtain ⟨o, x⟩ := x
        simp only at q1 q2 hol hbad hgd'
        have hki : (k : Int) < (m.code.length : Int) := by omega
        have hk0 : (0 : Int) ≤ (k : Int) := by omega
        have hck := Lib.hid (check_any o x hol (wr.alloc (.cells #[.int .u8 o, .int .u32 x] 62)))
        obtain ⟨ck, hce⟩ : ∃ ck, ck = checkN o x := ⟨_, rfl⟩
        rw [← hce] at hck hbad hgd'
        have Hbad := Lib.hid hbad
        have Hgd' := Lib.hid hgd'
        clear hbad hgd' hgd hc hbw hb hce hbk
        go_wp2_with fail
        refine hck.out.mono ?_
        rintro e w1 ⟨rfl, hb1⟩
        have Hb1 := Lib.hid (Bel.tr Hbk.out hb1)
        clear hb1 hck q1 q2
        by_cases hc0 : ck = 0
        · have HG := Lib.hid (Hgd'.out hc0)
          subst hc0
          go_wp2
          go_roundw
          case rel => exact ⟨k + 1, by omega, by go_num, Hb1.out, HG.out⟩
          case measure => simp [intOf]; omega
        · have hd : ((ck : Int) == 0) = false := by simp; omega
          have hd2 : ((ck : Int) != 0) = true := by simp; omega
          have HX := Lib.hid (Hbad.out hc0)
          go_wp2
          go_ret
          exact ⟨ret_natE (HR.out.trans ((checkI_2 h1 (by rw [HX.out]; exact hc0)).trans HX.out)), Bel.tr Hb0.out Hb1.out⟩
      · obtain rfl : k = m.code.length := by omega
        have hfb : firstBad m.code = 0 := firstBad_none hgd
        have Hfb := Lib.hid hfb
        have Hb := Lib.hid hb
        obtain ⟨c0, c1, c2, c3, c4, c5⟩ := HC.out
        have c1 := (hb.cell (p := ⟨w.heap.size, 1, none⟩) hlt0).trans c1
        have c2 := (hb.cell (p := ⟨w.heap.size, 2, none⟩) hlt0).trans c2
        have c3 := (hb.cell (p := ⟨w.heap.size, 3, none⟩) hlt0).trans c3
        have c4 := (hb.cell (p := ⟨w.heap.size, 4, none⟩) hlt0).trans c4
        have c5 := (hb.cell (p := ⟨w.heap.size, 5, none⟩) hlt0).trans c5
        clear hgd hfb c0 hb Hpc hlt hk
        by_cases h2 : 16384 < m.js.length
        · have h2' : (16384 : Int) < (m.js.length : Int) := by omega
          go_wp2
          go_ret
          exact ⟨ret_natE (a := 86) (HR.out.trans (checkI_3 h1 Hfb.out h2)), Bel.tr Hb0.out Hb.out⟩
        · have h2' : ¬ (16384 : Int) < (m.js.length : Int) := by omega
          have hst := Lib.hid (stackMay_any m.stack wr)
          have hrm := Lib.hid (fun W => room_any m.data.length m.zero m.stack hdl hz hs W)
          obtain ⟨sb, hsb⟩ : ∃ sb, sb = stackN m.stack := ⟨_, rfl⟩
          rw [← hsb] at hst
          have Hsb := Lib.hid hsb
          clear hsb
          have hrn : m.data.length + m.zero + m.stack = roomN m := rfl
          obtain ⟨rn, hre⟩ : ∃ rn, rn = roomN m := ⟨_, rfl⟩
          rw [hrn, ← hre] at hrm
          have Hre := Lib.hid hre
          clear hrn hre
          cases sb with
          | false =>
            go_wp2_with (go_at_call 65; refine hst.out.mono ?_; rintro e w' ⟨rfl, rfl⟩)
            go_ret
            exact ⟨ret_natE (a := 85) (HR.out.trans (checkI_4 h1 Hfb.out h2 (.inl Hsb.out.symm))), Bel.tr Hb0.out Hb.out⟩
          | true =>
            by_cases h5 : 65536 < rn
            · have h5' : (65536 : Int) < (rn : Int) := by omega
              go_wp2_with (first | (go_at_call 65; refine hst.out.mono ?_; rintro e w' ⟨rfl, rfl⟩) | (go_at_call 66; refine (hrm.out _).mono ?_; rintro e w' ⟨rfl, rfl⟩))
              go_ret
              exact ⟨ret_natE (a := 85) (HR.out.trans (checkI_4 h1 Hfb.out h2 (.inr (by rw [← Hre.out]; exact h5)))), Bel.tr Hb0.out Hb.out⟩
            · have h5' : ¬ (65536 : Int) < (rn : Int) := by omega
              by_cases h6 : 64 < m.lx.length
              · have h6' : (64 : Int) < (m.lx.length : Int) := by omega
                go_wp2_with (first | (go_at_call 65; refine hst.out.mono ?_; rintro e w' ⟨rfl, rfl⟩) | (go_at_call 66; refine (hrm.out _).mono ?_; rintro e w' ⟨rfl, rfl⟩))
                go_ret
                exact ⟨ret_natE (a := 87) (HR.out.trans (checkI_5 h1 Hfb.out h2 Hsb.out.symm (by rw [← Hre.out]; exact h5) h6)), Bel.tr Hb0.out Hb.out⟩
              · have h6' : ¬ (64 : Int) < (m.lx.length : Int) := by omega
                have HR6 := Lib.hid (HR.out.trans (checkI_6 h1 Hfb.out h2 Hsb.out.symm (by rw [← Hre.out]; exact h5) h6))
                have c5h := Lib.hid c5
                have hwl : w.heap.size < wr.heap.size := World.block_lt_of_cell? _ _ c5
                go_wp2_with (first | (go_at_call 65; refine hst.out.mono ?_; rintro e w' ⟨rfl, rfl⟩) | (go_at_call 66; refine (hrm.out _).mono ?_; rintro e w' ⟨rfl, rfl⟩))
                clear c1 c2 c3 c4 c5 hst hrm
                obtain ⟨wo, rfl⟩ : ∃ wo : World, wo = wr := ⟨_, rfl⟩
                go_loopw [6, 50] (fun _ i wr => ∃ k : Nat, k ≤ m.lx.length ∧ i = .int .i64 k ∧ wr = wo ∧ ∀ j, j < k → nameN m.lx j = true) (fun _ i _ => m.lx.length - (intOf i).toNat)
                case atStart => exact ⟨0, by omega, rfl, rfl, fun j h => absurd h (Nat.not_lt_zero j)⟩
                case round =>
                  obtain ⟨k, hk, rfl, rfl, hgd⟩ := hrel
                  by_cases hlt : k < m.lx.length
                  · have c5 := c5h.out
                    have hki : (k : Int) < (m.lx.length : Int) := by omega
                    have hk0 : (0 : Int) ≤ (k : Int) := by omega
                    have hnm := nameMay_any (.slice an m.lx.length cn) m.lx k hlt wr (H.out.n.below (Bel.tr Hb0.out Hb.out))
                    obtain ⟨nb, hnb⟩ : ∃ nb, nb = nameN m.lx k := ⟨_, rfl⟩
                    rw [← hnb] at hnm
                    have Hnb := Lib.hid hnb
                    have Hnm := Lib.hid hnm
                    have Hgd := Lib.hid hgd
                    clear hnb hnm hgd
                    cases nb with
                    | false =>
                      go_wp2_with (go_at_call 67; refine Hnm.out.mono ?_; rintro e w' ⟨rfl, rfl⟩)
                      go_ret
                      exact ⟨ret_natE (a := 87) (HR6.out.trans (if_neg (fun h => by have := (namesN_iff _).1 h k hlt; rw [← Hnb.out] at this; cases this))), Bel.tr Hb0.out Hb.out⟩
                    | true =>
                      go_wp2_with (go_at_call 67; refine Hnm.out.mono ?_; rintro e w' ⟨rfl, rfl⟩)
                      go_roundw
                      case rel => exact ⟨k + 1, by omega, by go_num, trivial, fun j hj => by
                        by_cases e : j = k
                        · rw [e]; exact Hnb.out.symm
                        · exact Hgd.out j (by omega)⟩
                      case measure => simp [intOf]; omega
                  · obtain rfl : k = m.lx.length := by omega
                    have hall : namesN m.lx = true := (namesN_iff _).2 hgd
                    have HX := Lib.hid (HR6.out.trans (if_pos hall))
                    clear hgd hall
                    go_wp2
                    go_ret
                    exact ⟨ret_natE (a := 0) HX.out, Bel.tr Hb0.out Hb.out⟩
set_option linter.unusedVariables false
theorem info217 : (Tryz.prog.info? 136).map (fun i => (i.zero, i.size, i.bytes)) = some (some (.agg #[.string ByteArray.empty, .int .u32 0]), 2, 24) := by kernel_rfl
theorem encI_one (l : List (Nat × Nat)) : ∀ u ∈ encI l, u.oneCell' = true := by
  induction l with
  | nil => intro u h; cases h
  | cons i l ih =>
    intro u h
    rcases List.mem_cons.1 h with rfl | h
    · rfl
    · rcases List.mem_cons.1 h with rfl | h
      · rfl
      · exact ih u h
theorem run_bs22_0' (w : World) : (Instr.buildSlice 22 0 #[]).run Tryz.prog w = .ok (.slice (some ⟨w.heap.size, 0, none⟩) 0 0) (w.alloc (.cells #[] 62)) := by kernel_rfl
set_option maxRecDepth 100000 in
set_option maxHeartbeats 1000000 in
theorem cloneI_any (u : Value) (n : Nat) (cs : List Value) (hn : n ≤ 5000000000000) (hone : ∀ x ∈ cs, x.oneCell' = true) (w : World) (hu : Reads w 2 u n cs) :
    Calls Tryz.prog 68 #[u] w fun e w' => ∃ v, e = .returned v ∧ w'.ownsRow w.heap.size 62 2 v n cs ∧ Below w.heap.size w w' := by
  obtain ⟨i0, hi, hz0, hz1, hz2⟩ := info_parts info36'
  have hb := run_bs22_0'
  have qn : ∀ (w : World) (a : Option Addr) (n c n' c' : Nat), (binOp .eql 22 (.slice a n c) (.slice none n' c')).run Tryz.prog w = .ok (.bool a.isNone) w := fun w a n c n' c' => Lib.run_eql_slice_nil w _ _ a n c n' c' Tryz.underlying22
  obtain ⟨a, cap, rfl, h1, h2, h3, hnn, hp⟩ := hu
  cases a with
  | none =>
    obtain rfl := hnn rfl
    obtain rfl : n = 0 := by omega
    obtain rfl : cs = [] := List.eq_nil_of_length_eq_zero (by omega)
    clear hp hnn h1
    go_enter Tryz.func68, Tryz.ntmps68
    go_wp2
    exact bodyPost_ret (v := .slice none 0 0) (by simp [results, Tryz.results68, go_sem]) rfl ⟨_, rfl, World.ownsRow_nil _ _ _ _, Below.refl _ _⟩
  | some ad =>
    have Hu := Lib.hid (show Reads (w.alloc (.cells #[] 62)) 2 (.slice (some ad) n cap) n cs from Reads.below ⟨some ad, cap, rfl, h1, h2, h3, hnn, hp⟩ (Bel.new _ _))
    have Hone := Lib.hid hone
    have Hoe := Lib.hid (own_empty w 62 2)
    clear hp hnn h1 hone
    go_enter Tryz.func68, Tryz.ntmps68
    go_wp2_with ((with_reducible refine wpList_append_reads (o := ⟨some 7, .call { callee := .builtin .append, args := #[.tmp 5, .tmp 6], argTypes := #[22, 22] }, _, _, _, none⟩) rfl _ _ 22 rfl 62 i0 (.agg #[.int .u8 0, .int .u32 0]) 2 8 Tryz.underlying22 hi hz0 hz1 hz2 ?_ ?_ _ 0 [] ?_ Hoe.out _ n cs ?_ Hu.out Hone.out ?_ ?_ ?_); rfl; decide; rfl; rfl; (unfold maxLen; omega); omega; intro v1 w1 o1 g1)
    have hx : w1.ownsRow w.heap.size 62 2 v1 n cs := by
      have := own_from o1 (B := w.heap.size) (fun g e => by
        rcases g1.2 g e with h' | h'
        · cases h'; exact Nat.le_refl _
        · simp at h'; omega)
      simpa using this
    have hbw : Below w.heap.size w w1 := (Bel.new w (.cells #[] 62)).grown g1.1 (by simp) (fun g e => by cases e; exact Nat.le_refl _)
    exact bodyPost_ret (v := v1) (by simp [results, Tryz.results68, go_sem]) rfl ⟨_, rfl, hx, hbw⟩
theorem run_bs23_0' (w : World) : (Instr.buildSlice 23 0 #[]).run Tryz.prog w = .ok (.slice (some ⟨w.heap.size, 0, none⟩) 0 0) (w.alloc (.cells #[] 25)) := by kernel_rfl
set_option maxRecDepth 100000 in
set_option maxHeartbeats 1000000 in
theorem cloneW_any (u : Value) (n : Nat) (cs : List Value) (hn : n ≤ 5000000000000) (hone : ∀ x ∈ cs, x.oneCell' = true) (w : World) (hu : Reads w 1 u n cs) :
    Calls Tryz.prog 69 #[u] w fun e w' => ∃ v, e = .returned v ∧ w'.ownsRow w.heap.size 25 1 v n cs ∧ Below w.heap.size w w' := by
  obtain ⟨i0, hi, hz0, hz1, hz2⟩ := info_parts info32
  have hb := run_bs23_0'
  have qn : ∀ (w : World) (a : Option Addr) (n c n' c' : Nat), (binOp .eql 23 (.slice a n c) (.slice none n' c')).run Tryz.prog w = .ok (.bool a.isNone) w := fun w a n c n' c' => Lib.run_eql_slice_nil w _ _ a n c n' c' Tryz.underlying23
  obtain ⟨a, cap, rfl, h1, h2, h3, hnn, hp⟩ := hu
  cases a with
  | none =>
    obtain rfl := hnn rfl
    obtain rfl : n = 0 := by omega
    obtain rfl : cs = [] := List.eq_nil_of_length_eq_zero (by omega)
    clear hp hnn h1
    go_enter Tryz.func69, Tryz.ntmps69
    go_wp2
    exact bodyPost_ret (v := .slice none 0 0) (by simp [results, Tryz.results69, go_sem]) rfl ⟨_, rfl, World.ownsRow_nil _ _ _ _, Below.refl _ _⟩
  | some ad =>
    have Hu := Lib.hid (show Reads (w.alloc (.cells #[] 25)) 1 (.slice (some ad) n cap) n cs from Reads.below ⟨some ad, cap, rfl, h1, h2, h3, hnn, hp⟩ (Bel.new _ _))
    have Hone := Lib.hid hone
    have Hoe := Lib.hid (own_empty w 25 1)
    clear hp hnn h1 hone
    go_enter Tryz.func69, Tryz.ntmps69
    go_wp2_with ((with_reducible refine wpList_append_reads (o := ⟨some 7, .call { callee := .builtin .append, args := #[.tmp 5, .tmp 6], argTypes := #[23, 23] }, _, _, _, none⟩) rfl _ _ 23 rfl 25 i0 (.int .u32 0) 1 4 Tryz.underlying23 hi hz0 hz1 hz2 ?_ ?_ _ 0 [] ?_ Hoe.out _ n cs ?_ Hu.out Hone.out ?_ ?_ ?_); rfl; decide; rfl; rfl; (unfold maxLen; omega); omega; intro v1 w1 o1 g1)
    have hx : w1.ownsRow w.heap.size 25 1 v1 n cs := by
      have := own_from o1 (B := w.heap.size) (fun g e => by
        rcases g1.2 g e with h' | h'
        · cases h'; exact Nat.le_refl _
        · simp at h'; omega)
      simpa using this
    have hbw : Below w.heap.size w w1 := (Bel.new w (.cells #[] 25)).grown g1.1 (by simp) (fun g e => by cases e; exact Nat.le_refl _)
    exact bodyPost_ret (v := v1) (by simp [results, Tryz.results69, go_sem]) rfl ⟨_, rfl, hx, hbw⟩
theorem run_bs24_0' (w : World) : (Instr.buildSlice 24 0 #[]).run Tryz.prog w = .ok (.slice (some ⟨w.heap.size, 0, none⟩) 0 0) (w.alloc (.cells #[] 5)) := by kernel_rfl
set_option maxRecDepth 100000 in
set_option maxHeartbeats 1000000 in
theorem cloneB_any (u : Value) (n : Nat) (cs : List Value) (hn : n ≤ 5000000000000) (hone : ∀ x ∈ cs, x.oneCell' = true) (w : World) (hu : Reads w 1 u n cs) :
    Calls Tryz.prog 70 #[u] w fun e w' => ∃ v, e = .returned v ∧ w'.ownsRow w.heap.size 5 1 v n cs ∧ Below w.heap.size w w' := by
  obtain ⟨i0, hi, hz0, hz1, hz2⟩ := info_parts info5
  have hb := run_bs24_0'
  have qn : ∀ (w : World) (a : Option Addr) (n c n' c' : Nat), (binOp .eql 24 (.slice a n c) (.slice none n' c')).run Tryz.prog w = .ok (.bool a.isNone) w := fun w a n c n' c' => Lib.run_eql_slice_nil w _ _ a n c n' c' Tryz.underlying24
  obtain ⟨a, cap, rfl, h1, h2, h3, hnn, hp⟩ := hu
  cases a with
  | none =>
    obtain rfl := hnn rfl
    obtain rfl : n = 0 := by omega
    obtain rfl : cs = [] := List.eq_nil_of_length_eq_zero (by omega)
    clear hp hnn h1
    go_enter Tryz.func70, Tryz.ntmps70
    go_wp2
    exact bodyPost_ret (v := .slice none 0 0) (by simp [results, Tryz.results70, go_sem]) rfl ⟨_, rfl, World.ownsRow_nil _ _ _ _, Below.refl _ _⟩
  | some ad =>
    have Hu := Lib.hid (show Reads (w.alloc (.cells #[] 5)) 1 (.slice (some ad) n cap) n cs from Reads.below ⟨some ad, cap, rfl, h1, h2, h3, hnn, hp⟩ (Bel.new _ _))
    have Hone := Lib.hid hone
    have Hoe := Lib.hid (own_empty w 5 1)
    clear hp hnn h1 hone
    go_enter Tryz.func70, Tryz.ntmps70
    go_wp2_with ((with_reducible refine wpList_append_reads (o := ⟨some 7, .call { callee := .builtin .append, args := #[.tmp 5, .tmp 6], argTypes := #[24, 24] }, _, _, _, none⟩) rfl _ _ 24 rfl 5 i0 (.int .u8 0) 1 1 Tryz.underlying24 hi hz0 hz1 hz2 ?_ ?_ _ 0 [] ?_ Hoe.out _ n cs ?_ Hu.out Hone.out ?_ ?_ ?_); rfl; decide; rfl; rfl; (unfold maxLen; omega); omega; intro v1 w1 o1 g1)
    have hx : w1.ownsRow w.heap.size 5 1 v1 n cs := by
      have := own_from o1 (B := w.heap.size) (fun g e => by
        rcases g1.2 g e with h' | h'
        · cases h'; exact Nat.le_refl _
        · simp at h'; omega)
      simpa using this
    have hbw : Below w.heap.size w w1 := (Bel.new w (.cells #[] 5)).grown g1.1 (by simp) (fun g e => by cases e; exact Nat.le_refl _)
    exact bodyPost_ret (v := v1) (by simp [results, Tryz.results70, go_sem]) rfl ⟨_, rfl, hx, hbw⟩
theorem run_bs26_0' (w : World) : (Instr.buildSlice 26 0 #[]).run Tryz.prog w = .ok (.slice (some ⟨w.heap.size, 0, none⟩) 0 0) (w.alloc (.cells #[] 136)) := by kernel_rfl
set_option maxRecDepth 100000 in
set_option maxHeartbeats 1000000 in
theorem cloneX_any (u : Value) (n : Nat) (cs : List Value) (hn : n ≤ 5000000000000) (hone : ∀ x ∈ cs, x.oneCell' = true) (w : World) (hu : Reads w 2 u n cs) :
    Calls Tryz.prog 71 #[u] w fun e w' => ∃ v, e = .returned v ∧ w'.ownsRow w.heap.size 136 2 v n cs ∧ Below w.heap.size w w' := by
  obtain ⟨i0, hi, hz0, hz1, hz2⟩ := info_parts info217
  have hb := run_bs26_0'
  have qn : ∀ (w : World) (a : Option Addr) (n c n' c' : Nat), (binOp .eql 26 (.slice a n c) (.slice none n' c')).run Tryz.prog w = .ok (.bool a.isNone) w := fun w a n c n' c' => Lib.run_eql_slice_nil w _ _ a n c n' c' Tryz.underlying26
  obtain ⟨a, cap, rfl, h1, h2, h3, hnn, hp⟩ := hu
  cases a with
  | none =>
    obtain rfl := hnn rfl
    obtain rfl : n = 0 := by omega
    obtain rfl : cs = [] := List.eq_nil_of_length_eq_zero (by omega)
    clear hp hnn h1
    go_enter Tryz.func71, Tryz.ntmps71
    go_wp2
    exact bodyPost_ret (v := .slice none 0 0) (by simp [results, Tryz.results71, go_sem]) rfl ⟨_, rfl, World.ownsRow_nil _ _ _ _, Below.refl _ _⟩
  | some ad =>
    have Hu := Lib.hid (show Reads (w.alloc (.cells #[] 136)) 2 (.slice (some ad) n cap) n cs from Reads.below ⟨some ad, cap, rfl, h1, h2, h3, hnn, hp⟩ (Bel.new _ _))
    have Hone := Lib.hid hone
    have Hoe := Lib.hid (own_empty w 136 2)
    clear hp hnn h1 hone
    go_enter Tryz.func71, Tryz.ntmps71
    go_wp2_with ((with_reducible refine wpList_append_reads (o := ⟨some 7, .call { callee := .builtin .append, args := #[.tmp 5, .tmp 6], argTypes := #[26, 26] }, _, _, _, none⟩) rfl _ _ 26 rfl 136 i0 (.agg #[.string ByteArray.empty, .int .u32 0]) 2 24 Tryz.underlying26 hi hz0 hz1 hz2 ?_ ?_ _ 0 [] ?_ Hoe.out _ n cs ?_ Hu.out Hone.out ?_ ?_ ?_); rfl; decide; rfl; rfl; (unfold maxLen; omega); omega; intro v1 w1 o1 g1)
    have hx : w1.ownsRow w.heap.size 136 2 v1 n cs := by
      have := own_from o1 (B := w.heap.size) (fun g e => by
        rcases g1.2 g e with h' | h'
        · cases h'; exact Nat.le_refl _
        · simp at h'; omega)
      simpa using this
    have hbw : Below w.heap.size w w1 := (Bel.new w (.cells #[] 136)).grown g1.1 (by simp) (fun g e => by cases e; exact Nat.le_refl _)
    exact bodyPost_ret (v := v1) (by simp [results, Tryz.results71, go_sem]) rfl ⟨_, rfl, hx, hbw⟩
structure ImgOwn (w : World) (B : Nat) (vc vj vd vn : Value) (m : Img) : Prop where
  c : w.ownsRow B 62 2 vc m.code.length (encI m.code)
  j : w.ownsRow B 25 1 vj m.js.length (encN .u32 m.js)
  d : w.ownsRow B 5 1 vd m.data.length (encN .u8 m.data)
  n : w.ownsRow B 136 2 vn m.lx.length (encX m.lx)
theorem ImgOwn.below {w w' : World} {B : Nat} {vc vj vd vn : Value} {m : Img} (h : ImgOwn w B vc vj vd vn m) (hb : Below w.heap.size w w') : ImgOwn w' B vc vj vd vn m :=
  ⟨own_below h.c hb, own_below h.j hb, own_below h.d hb, own_below h.n hb⟩
theorem ImgOwn.at {w w0 : World} {B : Nat} {vc vj vd vn xc xj xd xn : Value} {m : Img} (h : ImgOwn w B vc vj vd vn m) (h0 : ImgAt w0 xc xj xd xn m) : ImgAt w vc vj vd vn m :=
  ⟨⟨Reads.own h.c (by decide), h0.c.2⟩, ⟨Reads.own h.j (by decide), h0.j.2⟩, ⟨Reads.own h.d (by decide), h0.d.2⟩, ⟨Reads.own h.n (by decide), h0.n.2⟩, h0.z, h0.s⟩
structure Small (m : Img) : Prop where
  c : m.code.length ≤ 16384
  j : m.js.length ≤ 16384
  d : m.data.length ≤ 65536
  n : m.lx.length ≤ 64
theorem checkI_ok {m : Img} (h : checkI m = 0) : m.code.length ≤ 16384 ∧ firstBad m.code = 0 ∧ m.js.length ≤ 16384 ∧ stackN m.stack = true ∧ roomN m ≤ 65536 ∧ m.lx.length ≤ 64 ∧ namesN m.lx = true := by
  by_cases h1 : 16384 < m.code.length
  · rw [checkI_1 h1] at h; cases h
  by_cases h2 : firstBad m.code = 0
  case neg => rw [checkI_2 h1 h2] at h; exact absurd h h2
  by_cases h3 : 16384 < m.js.length
  · rw [checkI_3 h1 h2 h3] at h; cases h
  by_cases h4 : stackN m.stack = false ∨ 65536 < roomN m
  · rw [checkI_4 h1 h2 h3 h4] at h; cases h
  have h5 : stackN m.stack = true := by
    cases hs : stackN m.stack with
    | true => rfl
    | false => exact absurd (.inl hs) h4
  have h6 : ¬ 65536 < roomN m := fun h' => h4 (.inr h')
  by_cases h7 : 64 < m.lx.length
  · rw [checkI_5 h1 h2 h3 h5 h6 h7] at h; cases h
  rw [checkI_6 h1 h2 h3 h5 h6 h7] at h
  cases hn : namesN m.lx with
  | true => exact ⟨by omega, h2, by omega, h5, by omega, by omega, rfl⟩
  | false => rw [hn] at h; cases h
theorem zero28 (w : World) : (zeroValue 28).run Tryz.prog w = .ok (.agg #[.slice none 0 0, .slice none 0 0, .slice none 0 0, .int .u32 0, .int .u32 0, .slice none 0 0]) w := by kernel_rfl
def zImg : Array Value := #[.slice none 0 0, .slice none 0 0, .slice none 0 0, .int .u32 0, .int .u32 0, .slice none 0 0]
structure CopI (w W : World) (cs : Array Value) : Prop where
  a : W.heap[w.heap.size]? = some (.cells cs 28 (0, 0))
  b : W.heap[w.heap.size + 1]? = some (.cells zImg 28 (0, 0))
  bel : Below w.heap.size w W
theorem CopI.lt {w W : World} {cs : Array Value} (h : CopI w W cs) : w.heap.size + 1 < W.heap.size := (Array.getElem?_eq_some_iff.1 h.b).1
theorem CopI.call {w W W' : World} {cs : Array Value} (h : CopI w W cs) (hb : Below W.heap.size W W') : CopI w W' cs :=
  ⟨(hb.block _ (by have := h.lt; omega)).trans h.a, (hb.block _ h.lt).trans h.b, Bel.tr h.bel hb⟩
theorem CopI.set {w W : World} {cs : Array Value} (h : CopI w W cs) (i : Nat) (v : Value) (cs' : Array Value) (he : cs' = cs.setIfInBounds i v) : CopI w (W.setCell ⟨w.heap.size, i, none⟩ v) cs' := by
  subst he
  exact ⟨heap_setCell_same _ _ _ _ _ _ h.a, (heap_setCell_other _ _ _ _ (by show w.heap.size + 1 ≠ w.heap.size; omega)).trans h.b, h.bel.setCell (p := ⟨w.heap.size, i, none⟩) (Nat.le_refl _) v⟩
theorem CopI.cell {w W : World} {cs : Array Value} (h : CopI w W cs) (i : Nat) (v : Value) (he : cs[i]? = some v) : W.cell? ⟨w.heap.size, i, none⟩ = some v := (cell_of_row _ _ _ _ _ _ h.a).trans he
theorem CopI.free {w W : World} {cs : Array Value} (h : CopI w W cs) (i : Nat) : W.frozen? ⟨w.heap.size, i, none⟩ = false := frozen_of_row _ _ _ _ _ h.a
theorem own_past {w W : World} {B e sz n i : Nat} {v u : Value} {xs : List Value} (h : W.ownsRow B e sz v n xs) (hB : w.heap.size + 2 ≤ B) : (W.setCell ⟨w.heap.size, i, none⟩ u).ownsRow B e sz v n xs :=
  ownsRow_setCell_other h (fun e => by have := (h.lt _ e).1; simp at this; omega) u
theorem info28 : (Tryz.prog.info? 28).map (·.size) = some 6 := by kernel_rfl
theorem below_setRowB (w : World) {B : Nat} (g : Nat) (cs : Array Value) (h : B ≤ g) : Below B w (w.setRow g cs) :=
  ⟨rfl, rfl, rfl, by simp, fun k hk => setRow_other _ _ _ _ (by omega)⟩
theorem own_row {w W : World} {e sz n : Nat} {v : Value} {xs : List Value} {cs : Array Value} (h : W.ownsRow (w.heap.size + 2) e sz v n xs) : (W.setRow (w.heap.size + 1) cs).ownsRow w.heap.size e sz v n xs := by
  obtain ⟨hl, h⟩ := h
  rcases h with h | ⟨g, cap, cur, hv, hb, hg, rest⟩
  · exact ⟨hl, .inl h⟩
  · exact ⟨hl, .inr ⟨g, cap, cur, hv, by omega, (setRow_other _ _ _ _ (by omega)).trans hg, rest⟩⟩
set_option maxRecDepth 100000 in
set_option maxHeartbeats 4000000 in
theorem copied_any (vc vj vd vn : Value) (m : Img) (hs : Small m) (w : World) (h : ImgAt w vc vj vd vn m) :
    Calls Tryz.prog 37 #[.agg #[vc, vj, vd, .int .u32 m.zero, .int .u32 m.stack, vn]] w fun e w' => ∃ uc uj ud un, e = .returned (.agg #[uc, uj, ud, .int .u32 m.zero, .int .u32 m.stack, un]) ∧ ImgOwn w' w.heap.size uc uj ud un m ∧ Below w.heap.size w w' := by
  have hz := zero28
  have H := Lib.hid h
  obtain ⟨av, cv, hvc⟩ : ∃ a c, vc = .slice a m.code.length c := by obtain ⟨a, c, h, _⟩ := h.c.opened; exact ⟨a, c, h⟩
  obtain ⟨aj, cj, hvj⟩ : ∃ a c, vj = .slice a m.js.length c := by obtain ⟨a, c, h, _⟩ := h.j.1; exact ⟨a, c, h⟩
  obtain ⟨ad, cd, hvd⟩ : ∃ a c, vd = .slice a m.data.length c := by obtain ⟨a, c, h, _⟩ := h.d.1; exact ⟨a, c, h⟩
  obtain ⟨an, cn, hvn⟩ : ∃ a c, vn = .slice a m.lx.length c := by obtain ⟨a, c, h, _⟩ := h.n.1; exact ⟨a, c, h⟩
  subst hvc hvj hvd hvn
  clear h
  obtain ⟨W0, hW0⟩ : ∃ W0, W0 = (w.alloc (.cells #[.slice av m.code.length cv, .slice aj m.js.length cj, .slice ad m.data.length cd, .int .u32 m.zero, .int .u32 m.stack, .slice an m.lx.length cn] 28)).alloc (.cells #[.slice none 0 0, .slice none 0 0, .slice none 0 0, .int .u32 0, .int .u32 0, .slice none 0 0] 28) := ⟨_, rfl⟩
  have I0 := Lib.hid (show CopI w W0 #[.slice av m.code.length cv, .slice aj m.js.length cj, .slice ad m.data.length cd, .int .u32 m.zero, .int .u32 m.stack, .slice an m.lx.length cn] from by
    refine ⟨by rw [hW0]; exact (Below.heap_alloc _ _ _ (by simp)).trans (heap_alloc_new w _), ?_, by rw [hW0]; exact Bel.al (Bel.new _ _) _⟩
    rw [hW0]
    have := heap_alloc_new (w.alloc (.cells #[.slice av m.code.length cv, .slice aj m.js.length cj, .slice ad m.data.length cd, .int .u32 m.zero, .int .u32 m.stack, .slice an m.lx.length cn] 28)) (.cells zImg 28)
    rwa [World.size_alloc] at this)
  have hs2 := Lib.hid (show w.heap.size + 2 ≤ W0.heap.size from I0.out.lt)
  go_enter Tryz.func37, Tryz.ntmps37
  go_wp2_with fail
  rw [← hW0]
  clear hW0
  refine (cloneI_any (.slice av m.code.length cv) m.code.length (encI m.code) (by have := hs.c; omega) (encI_one _) _ (H.out.c.below I0.out.bel).1).mono ?_
  rintro e w1 ⟨u1, rfl, o1, hb1⟩
  obtain ⟨a1, c1, rfl, -, -, -⟩ := own_sl o1
  have J := I0.out.call hb1
  have J' := Lib.hid (J.set 0 (.slice a1 m.code.length c1) #[.slice a1 m.code.length c1, .slice aj m.js.length cj, .slice ad m.data.length cd, .int .u32 m.zero, .int .u32 m.stack, .slice an m.lx.length cn] rfl)
  have r1 := J.cell 0 _ rfl
  have r2 := J.free 0
  have P1 := Lib.hid (own_past (w := w) (i := 0) (u := (.slice a1 m.code.length c1)) (own_from (own_base o1) (B := w.heap.size + 2) (fun g e => by have := (o1.lt g e).1; have := I0.out.lt; omega)) (Nat.le_refl _))
  clear o1 hb1 J
  have r3 := (J'.out.cell 1 _ rfl)
  obtain ⟨W1, hW1⟩ : ∃ W1, W1 = w1.setCell ⟨w.heap.size, 0, none⟩ (.slice a1 m.code.length c1) := ⟨_, rfl⟩
  rw [← hW1] at J' P1
  have I1 := J'
  go_wp2_with fail
  rw [← hW1]
  clear hW1 r1 r2 r3 J'
  refine (cloneW_any (.slice aj m.js.length cj) m.js.length (encN .u32 m.js) (by have := hs.j; omega) (encN_one _ _) _ (H.out.j.below I1.out.bel).1).mono ?_
  rintro e w2 ⟨u2, rfl, o2, hb2⟩
  obtain ⟨a2, c2, rfl, -, -, -⟩ := own_sl o2
  have J := I1.out.call hb2
  have J' := Lib.hid (J.set 1 (.slice a2 m.js.length c2) #[.slice a1 m.code.length c1, .slice a2 m.js.length c2, .slice ad m.data.length cd, .int .u32 m.zero, .int .u32 m.stack, .slice an m.lx.length cn] rfl)
  have r1 := J.cell 1 _ rfl
  have r2 := J.free 1
  have P2 := Lib.hid (own_past (w := w) (i := 1) (u := (.slice a2 m.js.length c2)) (own_from (own_base o2) (B := w.heap.size + 2) (fun g e => by have := (o2.lt g e).1; have := I1.out.lt; omega)) (Nat.le_refl _))
  have P1 := Lib.hid (own_past (w := w) (i := 1) (u := (.slice a2 m.js.length c2)) (own_below P1.out hb2) (Nat.le_refl _))
  clear o2 hb2 J
  have r3 := (J'.out.cell 2 _ rfl)
  obtain ⟨W2, hW2⟩ : ∃ W2, W2 = w2.setCell ⟨w.heap.size, 1, none⟩ (.slice a2 m.js.length c2) := ⟨_, rfl⟩
  rw [← hW2] at J' P1 P2
  have I2 := J'
  go_wp2_with fail
  rw [← hW2]
  clear hW2 r1 r2 r3 J'
  refine (cloneB_any (.slice ad m.data.length cd) m.data.length (encN .u8 m.data) (by have := hs.d; omega) (encN_one _ _) _ (H.out.d.below I2.out.bel).1).mono ?_
  rintro e w3 ⟨u3, rfl, o3, hb3⟩
  obtain ⟨a3, c3, rfl, -, -, -⟩ := own_sl o3
  have J := I2.out.call hb3
  have J' := Lib.hid (J.set 2 (.slice a3 m.data.length c3) #[.slice a1 m.code.length c1, .slice a2 m.js.length c2, .slice a3 m.data.length c3, .int .u32 m.zero, .int .u32 m.stack, .slice an m.lx.length cn] rfl)
  have r1 := J.cell 2 _ rfl
  have r2 := J.free 2
  have P3 := Lib.hid (own_past (w := w) (i := 2) (u := (.slice a3 m.data.length c3)) (own_from (own_base o3) (B := w.heap.size + 2) (fun g e => by have := (o3.lt g e).1; have := I2.out.lt; omega)) (Nat.le_refl _))
  have P1 := Lib.hid (own_past (w := w) (i := 2) (u := (.slice a3 m.data.length c3)) (own_below P1.out hb3) (Nat.le_refl _))
  have P2 := Lib.hid (own_past (w := w) (i := 2) (u := (.slice a3 m.data.length c3)) (own_below P2.out hb3) (Nat.le_refl _))
  clear o3 hb3 J
  have r3 := (J'.out.cell 5 _ rfl)
  obtain ⟨W3, hW3⟩ : ∃ W3, W3 = w3.setCell ⟨w.heap.size, 2, none⟩ (.slice a3 m.data.length c3) := ⟨_, rfl⟩
  rw [← hW3] at J' P1 P2 P3
  have I3 := J'
  go_wp2_with fail
  rw [← hW3]
  clear hW3 r1 r2 r3 J'
  refine (cloneX_any (.slice an m.lx.length cn) m.lx.length (encX m.lx) (by have := hs.n; omega) (encX_one _) _ (H.out.n.below I3.out.bel).1).mono ?_
  rintro e w4 ⟨u4, rfl, o4, hb4⟩
  obtain ⟨a4, c4, rfl, -, -, -⟩ := own_sl o4
  have J := I3.out.call hb4
  have J' := Lib.hid (J.set 5 (.slice a4 m.lx.length c4) #[.slice a1 m.code.length c1, .slice a2 m.js.length c2, .slice a3 m.data.length c3, .int .u32 m.zero, .int .u32 m.stack, .slice a4 m.lx.length c4] rfl)
  have r1 := J.cell 5 _ rfl
  have r2 := J.free 5
  have P4 := Lib.hid (own_past (w := w) (i := 5) (u := (.slice a4 m.lx.length c4)) (own_from (own_base o4) (B := w.heap.size + 2) (fun g e => by have := (o4.lt g e).1; have := I3.out.lt; omega)) (Nat.le_refl _))
  have P1 := Lib.hid (own_past (w := w) (i := 5) (u := (.slice a4 m.lx.length c4)) (own_below P1.out hb4) (Nat.le_refl _))
  have P2 := Lib.hid (own_past (w := w) (i := 5) (u := (.slice a4 m.lx.length c4)) (own_below P2.out hb4) (Nat.le_refl _))
  have P3 := Lib.hid (own_past (w := w) (i := 5) (u := (.slice a4 m.lx.length c4)) (own_below P3.out hb4) (Nat.le_refl _))
  clear o4 hb4 J
  have s0 := J'.out.cell 0 _ rfl
  have s1 := J'.out.cell 1 _ rfl
  have s2 := J'.out.cell 2 _ rfl
  have s3 := J'.out.cell 3 _ rfl
  have s4 := J'.out.cell 4 _ rfl
  have s5 := J'.out.cell 5 _ rfl
  have hB4 := J'.out.b
  have HJ := Lib.hid J'.out
  obtain ⟨W4, hW4⟩ : ∃ W4, W4 = w4.setCell ⟨w.heap.size, 5, none⟩ (.slice a4 m.lx.length c4) := ⟨_, rfl⟩
  have HB4 := Lib.hid hB4
  clear hB4 hW4 J'
  go_wp2_with (((with_reducible refine wpList_store_row (o := ⟨none, .store 28 (.tmp 2) (.tmp 19), _, _, _, none⟩) rfl 28 _ _ rfl (w.heap.size + 1) #[.slice a1 m.code.length c1, .slice a2 m.js.length c2, .slice a3 m.data.length c3, .int .u32 m.zero, .int .u32 m.stack, .slice a4 m.lx.length c4] ?_ ?_ 28 _ HB4.out ?_ ?_ ?_ ?_); rfl; rfl; exact info28; rfl; (simp [Value.oneCell'])))
  refine bodyPost_ret (v := .agg #[.slice a1 m.code.length c1, .slice a2 m.js.length c2, .slice a3 m.data.length c3, .int .u32 m.zero, .int .u32 m.stack, .slice a4 m.lx.length c4]) (results_cell_row Tryz.results37 _ _ (w.heap.size + 1) 28 _ (0, 0) _ rfl (setRow_heap _ _ _ _ _ _ HB4.out) Tryz.underlying28 rfl info28) rfl ⟨_, _, _, _, rfl, ?_, ?_⟩
  · exact ⟨own_row P1.out, own_row P2.out, own_row P3.out, own_row P4.out⟩
  · exact HJ.out.bel.trans (below_setRowB _ _ _ (by omega))
theorem ext_getD {l m : List Nat} (hl : l.length = m.length) (h : ∀ j, j < l.length → l.getD j 0 = m.getD j 0) : l = m := by
  refine List.ext_getElem hl fun j h1 h2 => ?_
  have := h j h1
  rw [List.getD_eq_getElem?_getD, List.getD_eq_getElem?_getD, List.getElem?_eq_getElem h1, List.getElem?_eq_getElem h2] at this
  exact this
def sumTo : List Nat → Nat × Nat → Nat × Nat
  | [], s => s
  | x :: l, s => sumTo l ((s.1 + x) % 65521, (s.2 + (s.1 + x) % 65521) % 65521)
def sumN (l : List Nat) : Nat := (sumTo l (1, 0)).2 * 65536 + (sumTo l (1, 0)).1
theorem sumTo_snoc (x : Nat) : ∀ (l : List Nat) (s : Nat × Nat), sumTo (l ++ [x]) s = (((sumTo l s).1 + x) % 65521, ((sumTo l s).2 + ((sumTo l s).1 + x) % 65521) % 65521)
  | [], s => rfl
  | y :: l, s => by rw [List.cons_append]; exact sumTo_snoc x l _
theorem sumTo_low : ∀ (l : List Nat) (s : Nat × Nat), (sumTo l s).1 % 65521 = (s.1 + l.sum) % 65521
  | [], s => by simp [sumTo]
  | x :: l, s => by
    have := sumTo_low l ((s.1 + x) % 65521, (s.2 + (s.1 + x) % 65521) % 65521)
    rw [sumTo, this, List.sum_cons]
    simp only
    omega
theorem sumTo_lt : ∀ (l : List Nat) (s : Nat × Nat), s.1 < 65521 → s.2 < 65521 → (sumTo l s).1 < 65521 ∧ (sumTo l s).2 < 65521
  | [], s, h1, h2 => ⟨h1, h2⟩
  | x :: l, s, h1, h2 => sumTo_lt l _ (Nat.mod_lt _ (by decide)) (Nat.mod_lt _ (by decide))
theorem sumN_lt (l : List Nat) : sumN l < 4294967296 := by
  have := sumTo_lt l (1, 0) (by decide) (by decide)
  unfold sumN; omega
theorem sumN_low (l : List Nat) : sumN l % 65536 = (1 + l.sum) % 65521 := by
  have h := sumTo_lt l (1, 0) (by decide) (by decide)
  have h2 := sumTo_low l (1, 0)
  rw [Nat.mod_eq_of_lt h.1] at h2
  unfold sumN
  rw [h2] at *
  omega
theorem sum_set : ∀ (l : List Nat) (k x : Nat), k < l.length → (l.set k x).sum + l.getD k 0 = l.sum + x
  | [], k, x, h => by simp at h
  | y :: l, 0, x, h => by simp; omega
  | y :: l, k + 1, x, h => by
    have := sum_set l k x (by simpa using h)
    simp only [List.set_cons_succ, List.sum_cons, List.getD_cons_succ]
    omega
theorem sumN_set {l : List Nat} {k x : Nat} (hk : k < l.length) (hx : x < 256) (ho : l.getD k 0 < 256) (hne : x ≠ l.getD k 0) : sumN (l.set k x) ≠ sumN l := by
  intro e
  have h1 := sumN_low (l.set k x)
  have h2 := sumN_low l
  have h3 := sum_set l k x hk
  rw [e, h2] at h1
  omega
def runStep (a b : List Nat) (k : Nat) (s : List (Nat × List Nat) × Option (Nat × List Nat)) : List (Nat × List Nat) × Option (Nat × List Nat) :=
  if a.getD k 0 = b.getD k 0 then (match s.2 with | none => s | some r => (s.1 ++ [r], none))
  else match s.2 with | none => (s.1, some (k, [b.getD k 0])) | some r => (s.1, some (r.1, r.2 ++ [b.getD k 0]))
def runsTo (a b : List Nat) : Nat → List (Nat × List Nat) × Option (Nat × List Nat)
  | 0 => ([], none)
  | k + 1 => runStep a b k (runsTo a b k)
def closeR (s : List (Nat × List Nat) × Option (Nat × List Nat)) : List (Nat × List Nat) := match s.2 with | none => s.1 | some r => s.1 ++ [r]
def runsN (a b : List Nat) : List (Nat × List Nat) := closeR (runsTo a b a.length)
def layAt (l : List Nat) (r : Nat × List Nat) : List Nat := l.take r.1 ++ r.2 ++ l.drop (r.1 + r.2.length)
def mendN (l : List Nat) (rs : List (Nat × List Nat)) : List Nat := rs.foldl layAt l
def mendOk (n : Nat) : Nat → List (Nat × List Nat) → Bool
  | _, [] => true
  | last, r :: rs => decide (r.2.length ≠ 0) && (decide (last ≤ r.1) && (decide (r.1 + r.2.length ≤ n) && mendOk n (r.1 + r.2.length) rs))
def endR (last : Nat) (rs : List (Nat × List Nat)) : Nat := rs.foldl (fun _ r => r.1 + r.2.length) last
theorem mendOk_snoc (n : Nat) (r : Nat × List Nat) : ∀ (rs : List (Nat × List Nat)) (last : Nat), mendOk n last (rs ++ [r]) = (mendOk n last rs && (decide (r.2.length ≠ 0) && (decide (endR last rs ≤ r.1) && decide (r.1 + r.2.length ≤ n))))
  | [], last => by
    rw [Bool.eq_iff_iff]
    simp only [List.nil_append, mendOk, Bool.and_eq_true, decide_eq_true_eq]
    rw [show endR last [] = last from rfl]
    exact ⟨fun ⟨a, b, c, d⟩ => ⟨d, a, b, c⟩, fun ⟨d, a, b, c⟩ => ⟨a, b, c, d⟩⟩
  | q :: rs, last => by
    have := mendOk_snoc n r rs (q.1 + q.2.length)
    rw [List.cons_append, mendOk, mendOk, this, Bool.eq_iff_iff]
    simp only [Bool.and_eq_true, decide_eq_true_eq]
    rw [show endR last (q :: rs) = endR (q.1 + q.2.length) rs from rfl]
    exact ⟨fun ⟨a, b, c, d, e⟩ => ⟨⟨a, b, c, d⟩, e⟩, fun ⟨⟨a, b, c, d⟩, e⟩ => ⟨a, b, c, d, e⟩⟩
theorem endR_snoc (r : Nat × List Nat) (rs : List (Nat × List Nat)) (last : Nat) : endR last (rs ++ [r]) = r.1 + r.2.length := by simp [endR]
theorem layAt_length {l : List Nat} {r : Nat × List Nat} (h : r.1 + r.2.length ≤ l.length) : (layAt l r).length = l.length := by
  simp only [layAt, List.length_append, List.length_take, List.length_drop]; omega
theorem layAt_getD {l : List Nat} {r : Nat × List Nat} (h : r.1 + r.2.length ≤ l.length) (j : Nat) :
    (layAt l r).getD j 0 = if j < r.1 then l.getD j 0 else if j < r.1 + r.2.length then r.2.getD (j - r.1) 0 else l.getD j 0 := by
  unfold layAt
  simp only [List.getD_eq_getElem?_getD]
  have h1 : (l.take r.1).length = r.1 := by rw [List.length_take]; omega
  by_cases c1 : j < r.1
  · rw [if_pos c1, List.append_assoc, List.getElem?_append_left (by omega), List.getElem?_take, if_pos c1]
  · rw [if_neg c1]
    by_cases c2 : j < r.1 + r.2.length
    · rw [if_pos c2, List.append_assoc, List.getElem?_append_right (by omega), h1, List.getElem?_append_left (by omega)]
    · rw [if_neg c2, List.getElem?_append_right (by simp only [List.length_append]; omega), List.getElem?_drop]
      congr 2
      simp only [List.length_append, h1]; omega
theorem mendN_snoc (l : List Nat) (rs : List (Nat × List Nat)) (r : Nat × List Nat) : mendN l (rs ++ [r]) = layAt (mendN l rs) r := by simp [mendN]
structure RunsI (a b : List Nat) (k : Nat) (s : List (Nat × List Nat) × Option (Nat × List Nat)) (c : Nat) : Prop where
  ok : mendOk a.length 0 s.1 = true
  en : endR 0 s.1 ≤ c
  le : c ≤ k
  ln : (mendN a s.1).length = a.length
  lo : ∀ j, j < c → (mendN a s.1).getD j 0 = b.getD j 0
  hi : ∀ j, c ≤ j → (mendN a s.1).getD j 0 = a.getD j 0
  none : s.2 = none → c = k
  some : ∀ r, s.2 = some r → r.1 = c ∧ r.1 + r.2.length = k ∧ 0 < r.2.length ∧ ∀ j, j < r.2.length → r.2.getD j 0 = b.getD (r.1 + j) 0
theorem RunsI.close {a b : List Nat} {k c : Nat} {s : List (Nat × List Nat) × Option (Nat × List Nat)} (h : RunsI a b k s c) (hk : k ≤ a.length) {r : Nat × List Nat} (hr : s.2 = .some r) :
    RunsI a b k (s.1 ++ [r], .none) k := by
  obtain ⟨h1, h2, h3, h4⟩ := h.some r hr
  have hl : r.1 + r.2.length ≤ (mendN a s.1).length := by rw [h.ln]; omega
  refine ⟨?_, ?_, Nat.le_refl _, ?_, fun j hj => ?_, fun j hj => ?_, fun _ => rfl, fun q e => by cases e⟩
  · rw [mendOk_snoc, h.ok]
    have := h.en
    simp only [Bool.true_and, Bool.and_eq_true, decide_eq_true_eq]
    omega
  · rw [endR_snoc]; omega
  · rw [mendN_snoc, layAt_length hl, h.ln]
  · rw [mendN_snoc, layAt_getD hl]
    by_cases c1 : j < r.1
    · rw [if_pos c1]; exact h.lo j (by omega)
    · rw [if_neg c1, if_pos (by omega), h4 _ (by omega), show r.1 + (j - r.1) = j from by omega]
  · rw [mendN_snoc, layAt_getD hl, if_neg (by omega), if_neg (by omega)]
    exact h.hi j (by omega)
theorem runsI (a b : List Nat) : ∀ k, k ≤ a.length → ∃ c, RunsI a b k (runsTo a b k) c
  | 0, _ => ⟨0, rfl, Nat.le_refl _, Nat.le_refl _, rfl, fun j hj => absurd hj (Nat.not_lt_zero j), fun _ _ => rfl, fun _ => rfl, fun r e => by cases e⟩
  | k + 1, hk => by
    obtain ⟨c, h⟩ := runsI a b k (by omega)
    unfold runsTo runStep
    by_cases he : a.getD k 0 = b.getD k 0
    · rw [if_pos he]
      cases hs : (runsTo a b k).2 with
      | none =>
        obtain rfl := h.none hs
        simp only
        refine ⟨c + 1, h.ok, by have := h.en; omega, Nat.le_refl _, h.ln, fun j hj => ?_, fun j hj => h.hi j (by omega), fun _ => rfl, fun r e => by rw [hs] at e; cases e⟩
        by_cases c1 : j < c
        · exact h.lo j c1
        · obtain rfl : j = c := by omega
          rw [h.hi _ (Nat.le_refl _), he]
      | some r =>
        have h2 := h.close (by omega) hs
        simp only
        refine ⟨k + 1, h2.ok, by have := h2.en; omega, Nat.le_refl _, h2.ln, fun j hj => ?_, fun j hj => h2.hi j (by omega), fun _ => rfl, fun q e => by cases e⟩
        by_cases c1 : j < k
        · exact h2.lo j c1
        · obtain rfl : j = k := by omega
          rw [h2.hi _ (Nat.le_refl _), he]
    · rw [if_neg he]
      cases hs : (runsTo a b k).2 with
      | none =>
        obtain rfl := h.none hs
        simp only
        refine ⟨c, h.ok, h.en, by omega, h.ln, h.lo, h.hi, (fun e => by cases e), fun r e => ?_⟩
        cases e
        refine ⟨rfl, rfl, by simp, fun j hj => ?_⟩
        obtain rfl : j = 0 := by simpa using hj
        rfl
      | some r =>
        obtain ⟨h1, h2, h3, h4⟩ := h.some r hs
        simp only
        refine ⟨c, h.ok, h.en, by have := h.le; omega, h.ln, h.lo, h.hi, (fun e => by cases e), fun q e => ?_⟩
        cases e
        refine ⟨h1, by simp only [List.length_append, List.length_cons, List.length_nil]; omega, by simp, fun j hj => ?_⟩
        simp only [List.length_append, List.length_cons, List.length_nil] at hj
        simp only
        rw [List.getD_eq_getElem?_getD]
        by_cases c1 : j < r.2.length
        · rw [List.getElem?_append_left c1, ← List.getD_eq_getElem?_getD]; exact h4 j c1
        · obtain rfl : j = r.2.length := by omega
          rw [List.getElem?_append_right (Nat.le_refl _), Nat.sub_self, h2]
          rfl
theorem mend_runs {a b : List Nat} (h : a.length = b.length) : mendOk a.length 0 (runsN a b) = true ∧ mendN a (runsN a b) = b := by
  obtain ⟨c, hc⟩ := runsI a b a.length (Nat.le_refl _)
  unfold runsN closeR
  cases hs : (runsTo a b a.length).2 with
  | none =>
    obtain rfl := hc.none hs
    exact ⟨hc.ok, ext_getD (by rw [hc.ln, h]) fun j hj => hc.lo j (by rw [← hc.ln]; exact hj)⟩
  | some r =>
    have h2 := hc.close (Nat.le_refl _) hs
    exact ⟨h2.ok, ext_getD (by rw [h2.ln, h]) fun j hj => h2.lo j (by rw [← h2.ln]; exact hj)⟩
theorem runsTo_self (a : List Nat) : ∀ k, runsTo a a k = ([], none)
  | 0 => rfl
  | k + 1 => by unfold runsTo runStep; rw [runsTo_self a k, if_pos rfl]
theorem runsN_self (a : List Nat) : runsN a a = [] := by unfold runsN; rw [runsTo_self]; rfl
set_option maxRecDepth 100000 in
set_option maxHeartbeats 400000 in
theorem width8_any (w : World) : Calls Tryz.prog 136 #[] w fun e w' => e = .returned (.int .i64 1) ∧ w = w' := by
  have hx : bits BinOp.xor .u8 IntKind.u8.max 0 = 255 := by kernel_rfl
  go_enter Tryz.func136, Tryz.ntmps136
  go_wp2
  refine wp_loop_rounds 2 ?_
  rw [rounds_succ]
  go_wp2
  rw [rounds_succ]
  go_wp2
  go_ret
  exact ⟨rfl, rfl⟩
set_option maxRecDepth 100000 in
set_option maxHeartbeats 1000000 in
theorem lay8_any (v : Value) (n : Nat) (xs : List Value) (x : Nat) (hx : x < 256) (w : World) (hown : w.ownsRow 0 5 1 v n xs) (hn : n + 1 ≤ 140737488355328) :
    Calls Tryz.prog 114 #[v, .int .u8 x] w fun e w' => ∃ v', e = .returned v' ∧ w'.ownsRow 0 5 1 v' (n + 1) (xs ++ [.int .u8 x]) ∧ Grew w w' v v' := by
  obtain ⟨i0, hi, hz0, hz1, hz2⟩ := info_parts info5
  go_enter Tryz.func114, Tryz.ntmps114
  go_wp2_with fail
  refine (width8_any _).mono ?_
  rintro e w1 ⟨rfl, rfl⟩
  go_wp2_with fail
  go_loopw [0, 7] (fun u i wr => ∃ k : Nat, k ≤ 1 ∧ i = .int .i64 k ∧ wr.ownsRow 0 5 1 u (n + k) (xs ++ [Value.int .u8 x].take k) ∧ Grew w wr v u) (fun _ i _ => 1 - (intOf i).toNat)
  case atStart => exact ⟨0, by omega, rfl, by simpa using hown, Grew.refl _ _⟩
  case round =>
    obtain ⟨k, hk, rfl, hr, hg⟩ := hrel
    by_cases hlt : k < 1
    · obtain rfl : k = 0 := by omega
      simp only [Nat.add_zero, List.take_zero, List.append_nil] at hr
      go_wp2_with ((with_reducible refine wpList_append1 (o := ⟨some 18, .call { callee := .builtin .append, args := #[.tmp 10, .tmp 17], argTypes := #[24, 24] }, _, _, _, none⟩) rfl _ _ 24 rfl 5 i0 (.int .u8 0) 1 1 Tryz.underlying24 hi hz0 hz1 hz2 ?_ ?_ _ _ _ hr _ _ ?_ ?_ ?_ ?_ ?_ ?_ ?_); rfl; decide; rfl; rfl; rfl; (simp [Value.oneCell']); (unfold maxLen; omega); omega; intro g c w1 hr1 hg1 hl1)
      go_roundw
      case rel => exact ⟨1, by omega, by go_num, by simpa using hr1, hg.trans hg1⟩
      case measure => simp [intOf]
    · have : k = 1 := by omega
      subst this
      go_wp2
      go_ret
      exact ⟨_, rfl, by simpa using hr, hg⟩
set_option maxRecDepth 100000 in
set_option maxHeartbeats 1000000 in
theorem put8_any (a : Option Addr) (cap : Nat) (l : List Nat) (hl : ∀ i ∈ l, i < 256) (w : World) (hr : Reads w 1 (.slice a l.length cap) l.length (encN .u8 l)) (hn : l.length + 4 ≤ 140737488355328) :
    Calls Tryz.prog 79 #[.slice a l.length cap] w fun e w' => ∃ v', e = .returned v' ∧ w'.ownsRow 0 5 1 v' l.length (encN .u8 l) ∧ Grew w w' (.slice none 0 0) v' := by
  obtain ⟨a', cap', hv, hlen, hnc, hm, hnil, hp⟩ := hr
  simp only [Value.slice.injEq, true_and] at hv
  obtain ⟨rfl, rfl⟩ := hv
  have hcell : ∀ k, k < l.length → ∃ b off, a = some ⟨b, off, none⟩ ∧ b < w.heap.size ∧ w.cell? ⟨b, off + k, none⟩ = some (.int .u8 (l.getD k 0 : Nat)) := by
    intro k hk
    obtain ⟨b, off, e, hlt, hc⟩ := hp (by omega)
    exact ⟨b, off, e, hlt, by rw [hc k (by rw [encN_length]; exact hk), encN_at _ l k hk]⟩
  have Hcell := Lib.hid hcell
  clear hp hnil hcell hlen
  go_enter Tryz.func79, Tryz.ntmps79
  go_wp2_with fail
  go_loopw [3, 8] (fun u i wr => ∃ k : Nat, k ≤ l.length ∧ i = .int .i64 k ∧ wr.ownsRow 0 5 1 u k (encN .u8 (l.take k)) ∧ Grew w wr (.slice none 0 0) u) (fun _ i _ => l.length - (intOf i).toNat)
  case atStart => exact ⟨0, by omega, rfl, World.ownsRow_nil _ _ _ _, Grew.refl _ _⟩
  case round =>
    obtain ⟨k, hk, rfl, hr, hg⟩ := hrel
    by_cases hlt : k < l.length
    · obtain ⟨b, off, rfl, hbl, hc⟩ := Hcell.out k hlt
      have hc2 : wr.cell? ⟨b, off + k, none⟩ = some (.int .u8 (l.getD k 0 : Nat)) := ((Grew.bel hg).cell (p := ⟨b, off + k, none⟩) hbl).trans hc
      have hx : l.getD k 0 < 256 := by
        rw [List.getD_eq_getElem?_getD, List.getElem?_eq_getElem hlt]; exact hl _ (List.getElem_mem hlt)
      have hs : encN .u8 (l.take (k + 1)) = encN .u8 (l.take k) ++ [.int .u8 (l.getD k 0 : Nat)] := by
        rw [List.take_add_one, List.getElem?_eq_getElem hlt, encN_append, List.getD_eq_getElem?_getD, List.getElem?_eq_getElem hlt]; rfl
      have Hs := Lib.hid hs
      clear hs hc
      generalize l.getD k 0 = x at hc2 hx Hs
      have h60 := lay8_any u3 k (encN .u8 (l.take k)) x hx wr hr (by omega)
      go_wp2_with fail
      refine h60.mono ?_
      rintro e w1 ⟨v', rfl, hr1, hg1⟩
      clear h60
      go_wp2
      go_roundw
      case rel => exact ⟨k + 1, by omega, by go_num, by rw [Hs.out]; exact hr1, hg.trans hg1⟩
      case measure => simp [intOf]; omega
    · have : k = l.length := by omega
      subst this
      rw [List.take_length] at hr
      go_wp2
      go_ret
      exact ⟨_, rfl, hr, hg⟩
theorem sumTo_take {l : List Nat} {k : Nat} (hk : k < l.length) : sumTo (l.take (k + 1)) (1, 0) = (((sumTo (l.take k) (1, 0)).1 + l.getD k 0) % 65521, ((sumTo (l.take k) (1, 0)).2 + ((sumTo (l.take k) (1, 0)).1 + l.getD k 0) % 65521) % 65521) := by
  rw [List.take_add_one, List.getElem?_eq_getElem hk, List.getD_eq_getElem?_getD, List.getElem?_eq_getElem hk]
  exact sumTo_snoc _ _ _
set_option maxRecDepth 100000 in
set_option maxHeartbeats 1000000 in
theorem sum_bytes (v : Value) (l : List Nat) (w : World) (hv : Bytes w v l) :
    Calls Tryz.prog 42 #[v] w fun e w' => e = .returned (.int .u32 (sumN l)) ∧ w = w' := by
  obtain ⟨a, cap, rfl, hlc, hcm, hnil, hp⟩ := hv.opened
  have hm : l.length ≤ 9223372036854775807 := by unfold maxLen at hcm; omega
  have hlt := hv.lt
  have Hp := Lib.hid hp
  have Hl := Lib.hid hlt
  have HS := Lib.hid (show sumN l = (sumTo l (1, 0)).2 * 65536 + (sumTo l (1, 0)).1 from rfl)
  clear hp hv hlt hnil
  go_enter Tryz.func42, Tryz.ntmps42
  go_wp2_with fail
  go_loop [3, 4, 9] (fun lo hi i => ∃ (k x y : Nat), k ≤ l.length ∧ i = .int .i64 k ∧ lo = .int .u32 x ∧ hi = .int .u32 y ∧ x < 65521 ∧ y < 65521 ∧ sumTo (l.take k) (1, 0) = (x, y)) (fun _ _ i => l.length - (intOf i).toNat)
  case atStart => exact ⟨0, 1, 0, by omega, rfl, rfl, rfl, by decide, by decide, rfl⟩
  case round =>
    obtain ⟨k, x, y, hk, rfl, rfl, rfl, hx, hy, hs⟩ := hrel
    have Hs := Lib.hid hs
    clear hs
    by_cases hlt : k < l.length
    · obtain ⟨b, off, rfl, hbl, hc⟩ := Hp.out (by omega)
      have hcc := hc k hlt
      have hz := Hl.out k
      have Hn := Lib.hid (sumTo_take hlt)
      generalize l.getD k 0 = z at *
      clear hc
      have hki : (k : Int) < (l.length : Int) := by omega
      have hk0 : (0 : Int) ≤ (k : Int) := by omega
      go_wp2_with fail
      go_round
      case rel => exact ⟨k + 1, (x + z) % 65521, (y + (x + z) % 65521) % 65521, by omega, by go_num, by go_num, by go_num, Nat.mod_lt _ (by decide), Nat.mod_lt _ (by decide), by rw [Hn.out, Hs.out]⟩
      case measure => simp [intOf]; omega
    · obtain rfl : k = l.length := by omega
      have hsh : bits BinOp.xor .u32 0 0 = 0 := by kernel_rfl
      go_wp2
      go_ret
      refine ⟨?_, rfl⟩
      rw [HS.out]
      have h2 := Hs.out
      rw [List.take_length] at h2
      rw [h2]
      go_num
def leW : Nat → Nat → List Nat
  | 0, _ => []
  | w + 1, x => x % 256 :: leW w (x / 256)
def deW : List Nat → Nat
  | [] => 0
  | b :: l => b + 256 * deW l
theorem leW_length : ∀ (w x : Nat), (leW w x).length = w
  | 0, _ => rfl
  | w + 1, x => by rw [leW, List.length_cons, leW_length w]
theorem leW4 (x : Nat) : leW 4 x = le4 x := by
  simp only [leW, le4]
  rw [Nat.div_div_eq_div_mul, Nat.div_div_eq_div_mul]
theorem leW_lt : ∀ (w x : Nat), ∀ y ∈ leW w x, y < 256
  | 0, _, y, h => by cases h
  | w + 1, x, y, h => by
    rcases List.mem_cons.1 h with rfl | h
    · exact Nat.mod_lt _ (by decide)
    · exact leW_lt w _ y h
theorem deW_leW : ∀ (w x : Nat), x < 256 ^ w → deW (leW w x) = x
  | 0, x, h => by simp at h; subst h; rfl
  | w + 1, x, h => by
    rw [leW, deW, deW_leW w (x / 256) (by rw [Nat.pow_succ] at h; exact Nat.div_lt_of_lt_mul (by rw [Nat.mul_comm]; exact h))]
    omega
theorem leW_deW : ∀ (l : List Nat), (∀ y ∈ l, y < 256) → leW l.length (deW l) = l
  | [], _ => rfl
  | b :: l, h => by
    have hb := h b (List.mem_cons_self ..)
    rw [List.length_cons, deW, leW, show (b + 256 * deW l) % 256 = b from by omega, show (b + 256 * deW l) / 256 = deW l from by omega,
      leW_deW l (fun y hy => h y (List.mem_cons_of_mem _ hy))]
theorem deW_lt : ∀ (l : List Nat), (∀ y ∈ l, y < 256) → deW l < 256 ^ l.length
  | [], _ => by simp [deW]
  | b :: l, h => by
    have hb := h b (List.mem_cons_self ..)
    have := deW_lt l (fun y hy => h y (List.mem_cons_of_mem _ hy))
    rw [deW, List.length_cons, Nat.pow_succ]
    omega
def numAt (w : Nat) (b : List Nat) (at_ : Nat) : Nat := deW ((b.drop at_).take w)
theorem numAt_mid (w x : Nat) (p q : List Nat) (n : Nat) (hn : p.length = n) (hx : x < 256 ^ w) : numAt w (p ++ (leW w x ++ q)) n = x := by
  unfold numAt
  subst hn
  rw [List.drop_left, List.take_left' (leW_length w x), deW_leW w x hx]
structure St where
  life : Nat
  pc : Nat
  sp : Nat
  ops : List Nat
  data : List Nat
  value : Nat
  fault : Nat
structure St.Small (t : St) : Prop where
  l : t.life < 256
  p : t.pc < 4294967296
  s : t.sp < 4294967296
  o : ∀ x ∈ t.ops, x < 4294967296
  d : ∀ x ∈ t.data, x < 256
  v : t.value < 4294967296
  f : t.fault < 256
def runB (r : Nat × List Nat) : List Nat := leW 4 r.1 ++ (leW 4 r.2.length ++ r.2)
def bodyN (s : St) (base : List Nat) : List Nat :=
  [s.life, s.fault] ++ (leW 2 s.ops.length ++ (leW 4 s.pc ++ (leW 4 s.sp ++ (leW 4 s.value ++ (leW 4 (runsN base s.data).length ++ (s.ops.flatMap (leW 4) ++ (runsN base s.data).flatMap runB))))))
def headN (dig delta mark sum : Nat) : List Nat := [83, 65, 86, 33] ++ (leW 4 1 ++ (leW 8 dig ++ (leW 4 delta ++ (leW 4 mark ++ leW 4 sum))))
theorem headN_length (dig delta mark sum : Nat) : (headN dig delta mark sum).length = 28 := by simp [headN, leW_length]
def fileN (dig delta mark : Nat) (base : List Nat) (s : St) : List Nat := headN dig delta mark (sumN (headN dig delta mark 0 ++ bodyN s base)) ++ bodyN s base
def cleanN (b : List Nat) : List Nat := b.take 24 ++ ([0, 0, 0, 0] ++ b.drop 28)
def lookN (b : List Nat) : Nat × Nat :=
  if b.length < 48 then (b.length, 200) else if b.take 4 ≠ [83, 65, 86, 33] then (0, 200) else if numAt 4 b 4 ≠ 1 then (4, 200)
  else if 1 < numAt 4 b 16 then (16, 200) else if numAt 4 b 16 = 0 ∧ numAt 4 b 20 ≠ 0 then (20, 200) else if numAt 4 b 24 ≠ sumN (cleanN b) then (24, 200) else (0, 0)
def wordsN : List Nat → List Nat
  | a :: b :: c :: d :: l => deW [a, b, c, d] :: wordsN l
  | _ => []
theorem wordsN_cons (x : Nat) (hx : x < 4294967296) (l : List Nat) : wordsN (leW 4 x ++ l) = x :: wordsN l := by
  have h := deW_leW 4 x (by simpa using hx)
  simp only [leW] at h ⊢
  simp only [List.cons_append, List.nil_append, wordsN, h]
theorem wordsN_flat : ∀ (l : List Nat), (∀ x ∈ l, x < 4294967296) → wordsN (l.flatMap (leW 4)) = l
  | [], _ => rfl
  | x :: l, h => by
    rw [List.flatMap_cons, wordsN_cons x (h x (List.mem_cons_self ..)), wordsN_flat l (fun y hy => h y (List.mem_cons_of_mem _ hy))]
theorem flat4_length : ∀ (l : List Nat), (l.flatMap (leW 4)).length = 4 * l.length
  | [] => rfl
  | x :: l => by rw [List.flatMap_cons, List.length_append, leW_length, flat4_length l, List.length_cons]; omega
def rdRuns (b : List Nat) : Nat → Nat → List (Nat × List Nat) → Option (List (Nat × List Nat))
  | 0, _, rs => some rs
  | n + 1, at_, rs =>
    if at_ + 8 ≤ b.length ∧ numAt 4 b (at_ + 4) ≤ b.length - at_ - 8 then
      rdRuns b n (at_ + 8 + numAt 4 b (at_ + 4)) (rs ++ [(numAt 4 b at_, (b.drop (at_ + 8)).take (numAt 4 b (at_ + 4)))])
    else none
theorem rdRuns_flat (q : List Nat) : ∀ (rs : List (Nat × List Nat)) (p : List Nat) (done : List (Nat × List Nat)), (∀ r ∈ rs, r.1 < 4294967296 ∧ r.2.length < 4294967296) →
    rdRuns (p ++ (rs.flatMap runB ++ q)) rs.length p.length done = some (done ++ rs)
  | [], p, done, _ => by simp [rdRuns]
  | r :: rs, p, done, h => by
    obtain ⟨h1, h2⟩ := h r (List.mem_cons_self ..)
    have ih := rdRuns_flat q rs (p ++ runB r) (done ++ [r]) (fun x hx => h x (List.mem_cons_of_mem _ hx))
    have e : p ++ ((r :: rs).flatMap runB ++ q) = p ++ (leW 4 r.1 ++ (leW 4 r.2.length ++ (r.2 ++ (rs.flatMap runB ++ q)))) := by
      rw [List.flatMap_cons, runB]; simp only [List.append_assoc]
    have e2 : (p ++ runB r) ++ (rs.flatMap runB ++ q) = p ++ ((r :: rs).flatMap runB ++ q) := by
      rw [List.flatMap_cons]; simp only [List.append_assoc]
    have n1 := numAt_mid 4 r.1 p (leW 4 r.2.length ++ (r.2 ++ (rs.flatMap runB ++ q))) p.length rfl (by simpa using h1)
    have n2 : numAt 4 (p ++ (leW 4 r.1 ++ (leW 4 r.2.length ++ (r.2 ++ (rs.flatMap runB ++ q))))) (p.length + 4) = r.2.length := by
      rw [← List.append_assoc]
      exact numAt_mid 4 r.2.length (p ++ leW 4 r.1) _ _ (by rw [List.length_append, leW_length]) (by simpa using h2)
    have n3 : ((p ++ (leW 4 r.1 ++ (leW 4 r.2.length ++ (r.2 ++ (rs.flatMap runB ++ q))))).drop (p.length + 8)).take r.2.length = r.2 := by
      rw [← List.append_assoc, ← List.append_assoc, List.drop_left' (by simp [leW_length]), List.take_left]
    rw [e2] at ih
    have hl : (p ++ runB r).length = p.length + 8 + r.2.length := by simp [runB, leW_length]; omega
    rw [List.length_cons, rdRuns, e, n2, n1, n3, ← e, if_pos ⟨by rw [e]; simp [leW_length]; omega, by rw [e]; simp [leW_length]; omega⟩, ← hl, ih, List.append_assoc]
    rfl
def takenN (b : List Nat) (dig delta mark : Nat) (base : List Nat) : Except (Nat × Nat) St :=
  if (lookN b).2 ≠ 0 then .error (lookN b)
  else if numAt 8 b 8 ≠ dig then .error (8, 201)
  else if (numAt 4 b 16 = 1) ≠ (delta = 1) then .error (16, 202)
  else if numAt 4 b 20 ≠ mark then .error (20, 202)
  else if b.length < 48 + 4 * numAt 2 b 30 then .error (28, 200)
  else match rdRuns b (numAt 4 b 44) (48 + 4 * numAt 2 b 30) [] with
    | none => .error (28, 200)
    | some rs =>
      if mendOk base.length 0 rs = false then .error (28, 200)
      else
        if fileN dig delta mark base ⟨b.getD 28 0, numAt 4 b 32, numAt 4 b 36, wordsN ((b.drop 48).take (4 * numAt 2 b 30)), mendN base rs, numAt 4 b 40, b.getD 29 0⟩ = b then
          .ok ⟨b.getD 28 0, numAt 4 b 32, numAt 4 b 36, wordsN ((b.drop 48).take (4 * numAt 2 b 30)), mendN base rs, numAt 4 b 40, b.getD 29 0⟩
        else .error (28, 200)
theorem bodyN_ge (s : St) (base : List Nat) : 20 ≤ (bodyN s base).length := by
  simp [bodyN, leW_length]; omega
theorem clean_head (dig delta mark sum : Nat) (q : List Nat) : cleanN (headN dig delta mark sum ++ q) = headN dig delta mark 0 ++ q := by
  have e : ∀ t, headN dig delta mark t ++ q = ([83, 65, 86, 33] ++ (leW 4 1 ++ (leW 8 dig ++ (leW 4 delta ++ leW 4 mark)))) ++ (leW 4 t ++ q) := fun t => by
    simp only [headN, List.append_assoc]
  have hl : ([83, 65, 86, 33] ++ (leW 4 1 ++ (leW 8 dig ++ (leW 4 delta ++ leW 4 mark)))).length = 24 := by simp [leW_length]
  unfold cleanN
  rw [List.drop_left' (headN_length ..), e sum, List.take_left' hl, e 0]
  rfl
theorem fileN_length (dig delta mark : Nat) (base : List Nat) (s : St) : (fileN dig delta mark base s).length = 28 + (bodyN s base).length := by
  rw [fileN, List.length_append, headN_length]
theorem head_nums (dig delta mark sum : Nat) (hd : dig < 18446744073709551616) (h1 : delta < 4294967296) (hm : mark < 4294967296) (hs : sum < 4294967296) (q : List Nat) :
    (headN dig delta mark sum ++ q).take 4 = [83, 65, 86, 33] ∧ numAt 4 (headN dig delta mark sum ++ q) 4 = 1 ∧ numAt 8 (headN dig delta mark sum ++ q) 8 = dig ∧
    numAt 4 (headN dig delta mark sum ++ q) 16 = delta ∧ numAt 4 (headN dig delta mark sum ++ q) 20 = mark ∧ numAt 4 (headN dig delta mark sum ++ q) 24 = sum := by
  have e : headN dig delta mark sum ++ q = [83, 65, 86, 33] ++ (leW 4 1 ++ (leW 8 dig ++ (leW 4 delta ++ (leW 4 mark ++ (leW 4 sum ++ q))))) := by simp only [headN, List.append_assoc]
  rw [e]
  refine ⟨List.take_left' rfl, numAt_mid 4 1 _ _ _ rfl (by decide), ?_, ?_, ?_, ?_⟩
  · rw [← List.append_assoc]; exact numAt_mid 8 dig _ _ _ (by simp [leW_length]) (by simpa using hd)
  · rw [← List.append_assoc, ← List.append_assoc]; exact numAt_mid 4 delta _ _ _ (by simp [leW_length]) (by simpa using h1)
  · rw [← List.append_assoc, ← List.append_assoc, ← List.append_assoc]; exact numAt_mid 4 mark _ _ _ (by simp [leW_length]) (by simpa using hm)
  · rw [← List.append_assoc, ← List.append_assoc, ← List.append_assoc, ← List.append_assoc]; exact numAt_mid 4 sum _ _ _ (by simp [leW_length]) (by simpa using hs)
theorem look_file (dig delta mark : Nat) (base : List Nat) (s : St) (hd : dig < 18446744073709551616) (h1 : delta ≤ 1) (hm : mark < 4294967296) (h0 : delta = 0 → mark = 0) : lookN (fileN dig delta mark base s) = (0, 0) := by
  have hb := bodyN_ge s base
  have hc := clean_head dig delta mark (sumN (headN dig delta mark 0 ++ bodyN s base)) (bodyN s base)
  have hl := fileN_length dig delta mark base s
  obtain ⟨n1, n2, n3, n4, n5, n6⟩ := head_nums dig delta mark (sumN (headN dig delta mark 0 ++ bodyN s base)) hd (by omega) hm (sumN_lt _) (bodyN s base)
  unfold fileN at hl ⊢
  unfold lookN
  rw [if_neg (by omega), n1, if_neg (by simp), n2, if_neg (by simp), n4, if_neg (by omega), n5, if_neg (fun h => h.2 (h0 h.1)), n6, hc, if_neg (by simp)]
theorem body_nums (s : St) (hs : s.Small) (base p : List Nat) (hp : p.length = 28) (ho : s.ops.length < 65536) (hr : (runsN base s.data).length < 4294967296) :
    (p ++ bodyN s base).getD 28 0 = s.life ∧ (p ++ bodyN s base).getD 29 0 = s.fault ∧ numAt 2 (p ++ bodyN s base) 30 = s.ops.length ∧ numAt 4 (p ++ bodyN s base) 32 = s.pc ∧ numAt 4 (p ++ bodyN s base) 36 = s.sp ∧
    numAt 4 (p ++ bodyN s base) 40 = s.value ∧ numAt 4 (p ++ bodyN s base) 44 = (runsN base s.data).length ∧ ((p ++ bodyN s base).drop 48).take (4 * s.ops.length) = s.ops.flatMap (leW 4) := by
  unfold bodyN
  refine ⟨?_, ?_, ?_, ?_, ?_, ?_, ?_, ?_⟩
  · rw [List.getD_eq_getElem?_getD, List.getElem?_append_right (by omega), hp]; rfl
  · rw [List.getD_eq_getElem?_getD, List.getElem?_append_right (by omega), hp]; rfl
  · rw [← List.append_assoc]; exact numAt_mid 2 _ _ _ _ (by simp [hp]) (by simpa using ho)
  · rw [← List.append_assoc, ← List.append_assoc]; exact numAt_mid 4 _ _ _ _ (by simp [leW_length, hp]) (by simpa using hs.p)
  · rw [← List.append_assoc, ← List.append_assoc, ← List.append_assoc]; exact numAt_mid 4 _ _ _ _ (by simp [leW_length, hp]) (by simpa using hs.s)
  · rw [← List.append_assoc, ← List.append_assoc, ← List.append_assoc, ← List.append_assoc]; exact numAt_mid 4 _ _ _ _ (by simp [leW_length, hp]) (by simpa using hs.v)
  · rw [← List.append_assoc, ← List.append_assoc, ← List.append_assoc, ← List.append_assoc, ← List.append_assoc]; exact numAt_mid 4 _ _ _ _ (by simp [leW_length, hp]) (by simpa using hr)
  · rw [← List.append_assoc, ← List.append_assoc, ← List.append_assoc, ← List.append_assoc, ← List.append_assoc, ← List.append_assoc, List.drop_left' (by simp [leW_length, hp]), List.take_left' (flat4_length _)]
theorem runs_small {a b : List Nat} (hl : a.length = b.length) (hn : a.length ≤ 65536) : (runsN a b).length ≤ 65536 ∧ ∀ r ∈ runsN a b, r.1 < 4294967296 ∧ r.2.length < 4294967296 := by
  have h := (mend_runs hl).1
  have key : ∀ (rs : List (Nat × List Nat)) (last : Nat), last ≤ a.length → mendOk a.length last rs = true → last + rs.length ≤ a.length ∧ ∀ r ∈ rs, r.1 < 4294967296 ∧ r.2.length < 4294967296 := by
    intro rs
    induction rs with
    | nil => intro last hl _; exact ⟨by simpa using hl, fun r hr => by cases hr⟩
    | cons q rs ih =>
      intro last hlast hq
      simp only [mendOk, Bool.and_eq_true, decide_eq_true_eq] at hq
      obtain ⟨q1, q2, q3, q4⟩ := hq
      obtain ⟨i1, i2⟩ := ih (q.1 + q.2.length) q3 q4
      refine ⟨by rw [List.length_cons]; omega, fun r hr => ?_⟩
      rcases List.mem_cons.1 hr with rfl | hr
      · omega
      · exact i2 r hr
  obtain ⟨k1, k2⟩ := key _ 0 (Nat.zero_le _) h
  exact ⟨by omega, k2⟩
theorem taken_file (dig delta mark : Nat) (base : List Nat) (s : St) (hd : dig < 18446744073709551616) (h1 : delta ≤ 1) (hm : mark < 4294967296) (h0 : delta = 0 → mark = 0) (hs : s.Small) (ho : s.ops.length < 65536)
    (hl : base.length = s.data.length) (hn : base.length ≤ 65536) : takenN (fileN dig delta mark base s) dig delta mark base = .ok s := by
  obtain ⟨hr, hr2⟩ := runs_small hl hn
  have hlook := look_file dig delta mark base s hd h1 hm h0
  obtain ⟨n1, n2, n3, n4, n5, n6⟩ := head_nums dig delta mark (sumN (headN dig delta mark 0 ++ bodyN s base)) hd (by omega) hm (sumN_lt _) (bodyN s base)
  obtain ⟨m1, m2, m3, m4, m5, m6, m7, m8⟩ := body_nums s hs base (headN dig delta mark (sumN (headN dig delta mark 0 ++ bodyN s base))) (headN_length ..) ho (by omega)
  obtain ⟨r1, r2⟩ := mend_runs hl
  have hrd : rdRuns (fileN dig delta mark base s) (runsN base s.data).length (48 + 4 * s.ops.length) [] = some (runsN base s.data) := by
    have e : fileN dig delta mark base s = (headN dig delta mark (sumN (headN dig delta mark 0 ++ bodyN s base)) ++ ([s.life, s.fault] ++ (leW 2 s.ops.length ++ (leW 4 s.pc ++ (leW 4 s.sp ++ (leW 4 s.value ++ (leW 4 (runsN base s.data).length ++ s.ops.flatMap (leW 4)))))))) ++ ((runsN base s.data).flatMap runB ++ []) := by
      simp only [fileN, bodyN, List.append_assoc, List.append_nil]
    have h2 := rdRuns_flat [] (runsN base s.data) (headN dig delta mark (sumN (headN dig delta mark 0 ++ bodyN s base)) ++ ([s.life, s.fault] ++ (leW 2 s.ops.length ++ (leW 4 s.pc ++ (leW 4 s.sp ++ (leW 4 s.value ++ (leW 4 (runsN base s.data).length ++ s.ops.flatMap (leW 4)))))))) [] hr2
    rw [← e] at h2
    have e3 : (headN dig delta mark (sumN (headN dig delta mark 0 ++ bodyN s base)) ++ ([s.life, s.fault] ++ (leW 2 s.ops.length ++ (leW 4 s.pc ++ (leW 4 s.sp ++ (leW 4 s.value ++ (leW 4 (runsN base s.data).length ++ s.ops.flatMap (leW 4)))))))).length = 48 + 4 * s.ops.length := by
      simp only [List.length_append, headN_length, leW_length, flat4_length, List.length_cons, List.length_nil]; omega
    rw [e3] at h2
    exact h2
  have hlen : ¬ (fileN dig delta mark base s).length < 48 + 4 * s.ops.length := by
    rw [fileN_length]
    simp only [bodyN, List.length_append, leW_length, flat4_length, List.length_cons, List.length_nil]; omega
  have hst : (⟨s.life, s.pc, s.sp, s.ops, s.data, s.value, s.fault⟩ : St) = s := rfl
  unfold takenN
  rw [hlook, if_neg (by simp)]
  rw [← fileN] at n1 n2 n3 n4 n5 n6 m1 m2 m3 m4 m5 m6 m7 m8
  rw [n3, if_neg (by simp), n4, if_neg (by simp), n5, if_neg (by simp), m3, if_neg hlen, m7, hrd]
  simp only
  rw [r1, if_neg (by simp), m1, m2, m4, m5, m6, m8, wordsN_flat _ hs.o, r2, hst, if_pos rfl]
theorem look_turned {b : List Nat} (hb : ∀ x ∈ b, x < 256) (h : (lookN b).2 = 0) {k x : Nat} (hk : k < b.length) (hx : x < 256) (hne : x ≠ b.getD k 0) : (lookN (b.set k x)).2 ≠ 0 := by
  intro h2
  have key : ∀ c : List Nat, (lookN c).2 = 0 → 48 ≤ c.length ∧ numAt 4 c 24 = sumN (cleanN c) := by
    intro c hc
    unfold lookN at hc
    split at hc
    · simp at hc
    split at hc
    · simp at hc
    split at hc
    · simp at hc
    split at hc
    · simp at hc
    split at hc
    · simp at hc
    split at hc
    · simp at hc
    · rename_i g1 _ _ _ _ g2
      exact ⟨by omega, by simpa using g2⟩
  obtain ⟨l1, e1⟩ := key b h
  obtain ⟨l2, e2⟩ := key _ h2
  have hgk : b.getD k 0 < 256 := by
    rw [List.getD_eq_getElem?_getD, List.getElem?_eq_getElem hk]; exact hb _ (List.getElem_mem _)
  by_cases c1 : 24 ≤ k ∧ k < 28
  · have ec : cleanN (b.set k x) = cleanN b := by
      unfold cleanN
      rw [List.take_set_of_le (by omega), List.drop_set_of_lt (by omega)]
    rw [ec, ← e1] at e2
    have hw : ∀ c : List Nat, (∀ y ∈ c, y < 256) → 48 ≤ c.length → leW 4 (numAt 4 c 24) = (c.drop 24).take 4 := fun c hc hl => by
      have := leW_deW ((c.drop 24).take 4) (fun y hy => hc y (List.mem_of_mem_drop (List.mem_of_mem_take hy)))
      rw [show ((c.drop 24).take 4).length = 4 from by simp; omega] at this
      exact this
    have hw1 := hw b hb l1
    have hw2 := hw (b.set k x) (fun y hy => by
      rcases List.mem_or_eq_of_mem_set hy with h | h
      · exact hb y h
      · rw [h]; exact hx) l2
    rw [e2, hw1] at hw2
    have := congrArg (fun l => l.getD (k - 24) 0) hw2
    simp only [List.getD_eq_getElem?_getD, List.getElem?_take, List.getElem?_drop] at this
    rw [show 24 + (k - 24) = k from by omega, List.getElem?_set_self (by omega), if_pos (by omega), if_pos (by omega)] at this
    rw [List.getD_eq_getElem?_getD] at hne
    exact hne this.symm
  · have hn : numAt 4 (b.set k x) 24 = numAt 4 b 24 := by
      unfold numAt
      congr 1
      refine List.ext_getElem? fun j => ?_
      rw [List.getElem?_take, List.getElem?_take]
      by_cases hj : j < 4
      · rw [if_pos hj, if_pos hj, List.getElem?_drop, List.getElem?_drop, List.getElem?_set_ne (by omega)]
      · rw [if_neg hj, if_neg hj]
    rw [hn, e1] at e2
    have ec : ∃ k', k' < (cleanN b).length ∧ (cleanN b).getD k' 0 = b.getD k 0 ∧ cleanN (b.set k x) = (cleanN b).set k' x := by
      have l24 : (b.take 24).length = 24 := by rw [List.length_take]; omega
      by_cases c2 : k < 24
      · refine ⟨k, by simp [cleanN]; omega, ?_, ?_⟩
        · unfold cleanN
          rw [List.getD_eq_getElem?_getD, List.getElem?_append_left (by omega), List.getElem?_take, if_pos c2, ← List.getD_eq_getElem?_getD]
        · unfold cleanN
          rw [List.drop_set_of_lt (by omega), List.set_append_left _ _ (by omega), List.take_set]
      · refine ⟨k, by simp [cleanN]; omega, ?_, ?_⟩
        · unfold cleanN
          rw [List.getD_eq_getElem?_getD, List.getElem?_append_right (by omega), l24, List.getElem?_append_right (by simp; omega), List.getElem?_drop, List.getD_eq_getElem?_getD]
          congr 2
          simp; omega
        · unfold cleanN
          rw [List.take_set_of_le (by omega), List.set_append_right _ _ (by omega), l24, List.set_append_right _ _ (by simp; omega), List.drop_set, if_neg (by omega)]
          congr 3
    obtain ⟨k', k1, k2, k3⟩ := ec
    rw [k3] at e2
    exact sumN_set k1 hx (by rw [k2]; exact hgk) (by rw [k2]; exact hne) e2.symm
def byN (s : ByteArray) : List Nat := s.data.toList.map (·.toNat)
def nameB (n : ByteArray × Nat) : List Nat := le4 n.2 ++ ([n.1.size % 256] ++ byN n.1)
def namesB (lx : List (ByteArray × Nat)) : List Nat := lx.flatMap nameB
def withN (b : List Nat) (at_ x : Nat) : List Nat := b.take at_ ++ (le4 x ++ b.drop (at_ + 4))
theorem withN_length {b : List Nat} {at_ x : Nat} (h : at_ + 4 ≤ b.length) : (withN b at_ x).length = b.length := by
  simp only [withN, List.length_append, List.length_take, List.length_drop, le4_length]; omega
def partsI (m : Img) : List (List Nat) := [encode m.code, le4s m.js, m.data, namesB m.lx]
def spansL : Nat → List Nat → List (Nat × Nat)
  | _, [] => []
  | a, n :: l => (a, n) :: spansL (a + n) l
def headI (m : Img) : List Nat := [80, 69, 78, 33] ++ le4s [1, 0, m.code.length]
def rawI (m : Img) : List Nat := headI m ++ ((spansL 64 ((partsI m).map List.length)).flatMap (fun s => le4s [s.1, s.2]) ++ (le4s [m.zero, m.stack, 0, 0] ++ (partsI m).flatMap id))
def sealedN (b : List Nat) : List Nat := withN (withN b 8 0) 8 (sumN (withN b 8 0))
def imgB (m : Img) : List Nat := sealedN (rawI m)
def digN (m : Img) : Nat := sumN (imgB m) * 4294967296 + (imgB m).length
set_option maxRecDepth 100000 in
set_option maxHeartbeats 1000000 in
theorem cloneC_any (u : Value) (n : Nat) (cs : List Value) (hn : n ≤ 140737488355328) (hone : ∀ x ∈ cs, x.oneCell' = true) (w : World) (hu : Reads w 1 u n cs) :
    Calls Tryz.prog 99 #[u] w fun e w' => ∃ v, e = .returned v ∧ w'.ownsRow w.heap.size 5 1 v n cs ∧ Below w.heap.size w w' := by
  obtain ⟨i0, hi, hz0, hz1, hz2⟩ := info_parts info5
  have hb := run_bs24_0'
  have qn : ∀ (w : World) (a : Option Addr) (n c n' c' : Nat), (binOp .eql 24 (.slice a n c) (.slice none n' c')).run Tryz.prog w = .ok (.bool a.isNone) w := fun w a n c n' c' => Lib.run_eql_slice_nil w _ _ a n c n' c' Tryz.underlying24
  obtain ⟨a, cap, rfl, h1, h2, h3, hnn, hp⟩ := hu
  cases a with
  | none =>
    obtain rfl := hnn rfl
    obtain rfl : n = 0 := by omega
    obtain rfl : cs = [] := List.eq_nil_of_length_eq_zero (by omega)
    clear hp hnn h1
    go_enter Tryz.func99, Tryz.ntmps99
    go_wp2
    exact bodyPost_ret (v := .slice none 0 0) (by simp [results, Tryz.results99, go_sem]) rfl ⟨_, rfl, World.ownsRow_nil _ _ _ _, Below.refl _ _⟩
  | some ad =>
    have Hu := Lib.hid (show Reads (w.alloc (.cells #[] 5)) 1 (.slice (some ad) n cap) n cs from Reads.below ⟨some ad, cap, rfl, h1, h2, h3, hnn, hp⟩ (Bel.new _ _))
    have Hone := Lib.hid hone
    have Hoe := Lib.hid (own_empty w 5 1)
    clear hp hnn h1 hone
    go_enter Tryz.func99, Tryz.ntmps99
    go_wp2_with ((with_reducible refine wpList_append_reads (o := ⟨some 7, .call { callee := .builtin .append, args := #[.tmp 5, .tmp 6], argTypes := #[24, 24] }, _, _, _, none⟩) rfl _ _ 24 rfl 5 i0 (.int .u8 0) 1 1 Tryz.underlying24 hi hz0 hz1 hz2 ?_ ?_ _ 0 [] ?_ Hoe.out _ n cs ?_ Hu.out Hone.out ?_ ?_ ?_); rfl; decide; rfl; rfl; (unfold maxLen; omega); omega; intro v1 w1 o1 g1)
    have hx : w1.ownsRow w.heap.size 5 1 v1 n cs := by
      have := own_from o1 (B := w.heap.size) (fun g e => by
        rcases g1.2 g e with h' | h'
        · cases h'; exact Nat.le_refl _
        · simp at h'; omega)
      simpa using this
    have hbw : Below w.heap.size w w1 := (Bel.new w (.cells #[] 5)).grown g1.1 (by simp) (fun g e => by cases e; exact Nat.le_refl _)
    exact bodyPost_ret (v := v1) (by simp [results, Tryz.results99, go_sem]) rfl ⟨_, rfl, hx, hbw⟩
theorem run_append_make (n : Nat) (h0 : 0 < n) (hn : n ≤ 140737488355328) (ty : TypeId) (w : World) :
    (Builtin.append_ #[24, 3] ty #[.slice none 0 0, .int .i64 n]).run Tryz.prog w =
      .ok (.slice (some ⟨w.heap.size, 0, none⟩) n (grownCap w n 0 5)) (w.drew.alloc (.cells (Builtin.zeroCells #[.int .u8 0] n ++ Builtin.zeroCells #[.int .u8 0] (grownCap w n 0 5 - n)) 5)) := by
  obtain ⟨i0, hi, hz0, hz1, hz2⟩ := info_parts info5
  have hw : IntKind.i64.wrap (n : Int) = (n : Int) := IntWalk.i64_in _ (by omega)
  have hne : n ≠ 0 := by omega
  have h63' : ¬ (9223372036854775807 < (n : Int)) := by omega
  have h48' : ¬ (281474976710656 < Builtin.nextslicecap n 0) := by rw [nextslicecap_zero h0]; omega
  have h48i : ¬ (281474976710656 < (n : Int)) := by omega
  have hneg : ¬ ((n : Int) < 0) := by omega
  simp [Builtin.append_, run_underlying Tryz.underlying24, run_underlying Tryz.underlying3, sizeOf, typeInfo, zeroValue, hi, hz0, hz1, hz2, asInt, asIntOf, hw, hne, hneg, h63', h48', h48i, Question.forced, run_firstCells_none, newRow, grownCap, Value.cells]
theorem wpList_append_run {P : Program} {w w' : World} {ops : Array Oper} {rest : List Oper} {o : Oper} {a : Act} {Q : Exit → Act → World → Prop} (hgd : o.guard = none) (p q : Operand) (ts : Array TypeId)
    (ho : o.op = .call { callee := .builtin .append, args := #[p, q], argTypes := ts }) (x y v : Value) (hp : a.eval p = x) (hq : a.eval q = y) (hr : (Builtin.append_ ts o.type #[x, y]).run P w = .ok v w')
    (h : wpList P ops Q rest (a.put o.dst v) w') : wpList P ops Q (o :: rest) a w := by
  refine wpList_plain hgd fun K hK => ?_
  unfold Oper.wp
  simp only [execOp, ho, resolve, invoke, builtin, Sem.run_bind, Sem.run_pure, Result.andThen_ok, List.map_toArray, List.map_cons, List.map_nil, hp, hq, hr]
  exact hK _ _ h
set_option maxRecDepth 100000 in
set_option maxHeartbeats 1000000 in
theorem growB_any (n : Nat) (hn : n ≤ 140737488355328) (w : World) :
    Calls Tryz.prog 95 #[.slice none 0 0, .int .i64 n] w fun e w' => ∃ v, e = .returned v ∧ w'.ownsRow w.heap.size 5 1 v 0 [] ∧ Below w.heap.size w w' := by
  by_cases h0 : n = 0
  · subst h0
    go_enter Tryz.func95, Tryz.ntmps95
    go_wp2
    go_ret
    exact ⟨_, rfl, World.ownsRow_nil _ _ _ _, Below.refl _ _⟩
  · have hr := fun ty => run_append_make n (by omega) hn ty w
    have hge := grownCap_ge w n 0 5
    have hcm : grownCap w n 0 5 ≤ maxLen := grownCap_le_maxLen w n 0 5 (by unfold maxLen; omega)
    have hzs : (Builtin.zeroCells #[.int .u8 0] n ++ Builtin.zeroCells #[.int .u8 0] (grownCap w n 0 5 - n) : Array Value).size = grownCap w n 0 5 * 1 := by
      simp [size_zeroCells]; omega
    generalize (Builtin.zeroCells #[.int .u8 0] n ++ Builtin.zeroCells #[.int .u8 0] (grownCap w n 0 5 - n) : Array Value) = cur at *
    generalize grownCap w n 0 5 = cap at *
    have hpos : (0 : Int) < (n : Int) := by omega
    have hneg : ¬ (n : Int) < 0 := by omega
    have HO := Lib.hid (show (w.drew.alloc (.cells cur 5)).ownsRow w.heap.size 5 1 (.slice (some ⟨w.heap.size, 0, none⟩) 0 cap) 0 [] from
      ⟨rfl, .inr ⟨w.heap.size, cap, cur, rfl, Nat.le_refl _, heap_alloc_new w.drew _, Nat.zero_le _, hcm, hzs, rfl⟩⟩)
    have HB := Lib.hid (show Below w.heap.size w (w.drew.alloc (.cells cur 5)) from ((Below.refl _ w).drew).alloc (Nat.le_refl _) _)
    have hcn : (0 : Int) ≤ (cap : Int) := by omega
    have HR := Lib.hid hr
    clear hzs hr
    go_enter Tryz.func95, Tryz.ntmps95
    go_wp2_with ((with_reducible refine wpList_append_run (o := ⟨some 22, .call { callee := .builtin .append, args := #[.tmp 20, .tmp 21], argTypes := #[24, 3] }, _, _, _, none⟩) rfl _ _ #[24, 3] rfl _ _ _ ?_ ?_ (HR.out _) ?_); rfl; rfl)
    go_ret
    exact ⟨_, rfl, HO.out, HB.out⟩
theorem getD_flat (ls : List (List Nat)) (k : Nat) (hk : k < ls.length) : (ls.take (k + 1)).flatten = (ls.take k).flatten ++ ls.getD k [] := by
  rw [List.take_add_one, List.getElem?_eq_getElem hk, List.flatten_append, List.getD_eq_getElem?_getD, List.getElem?_eq_getElem hk]
  simp
structure ListsB (w : World) (q : Nat) (vs : List Value) (ls : List (List Nat)) : Prop where
  hl : vs.length = ls.length
  hq : q < w.heap.size
  hc : ∀ j, j < vs.length → w.cell? ⟨q, j, none⟩ = vs[j]?
  hb : ∀ (j : Nat) (v : Value), vs[j]? = some v → Bytes w v (ls.getD j [])
theorem ListsB.below {w w' : World} {q : Nat} {vs : List Value} {ls : List (List Nat)} (h : ListsB w q vs ls) (hb : Below w.heap.size w w') : ListsB w' q vs ls :=
  ⟨h.hl, Nat.lt_of_lt_of_le h.hq hb.size, fun j hj => (hb.cell (p := ⟨q, j, none⟩) h.hq).trans (h.hc j hj), fun j v hv => (h.hb j v hv).below hb⟩
theorem flat_le (ls : List (List Nat)) (k : Nat) : (ls.take k).flatten.length ≤ ls.flatten.length := by
  have := List.take_append_drop k ls
  have h2 := congrArg (fun l => l.flatten.length) this
  simp only [List.flatten_append, List.length_append] at h2
  omega
set_option maxRecDepth 100000 in
set_option maxHeartbeats 2000000 in
theorem concat_any (q n c : Nat) (vs : List Value) (ls : List (List Nat)) (hn : n = ls.length) (hn2 : n ≤ 1000) (ht : ls.flatten.length ≤ 100000000) (w : World) (h : ListsB w q vs ls) :
    Calls Tryz.prog 53 #[.slice (some ⟨q, 0, none⟩) n c] w fun e w' => ∃ v, e = .returned v ∧ w'.ownsRow w.heap.size 5 1 v ls.flatten.length (encN .u8 ls.flatten) ∧ Below w.heap.size w w' := by
  obtain ⟨i0, hi, hz0, hz1, hz2⟩ := info_parts info5
  have H := Lib.hid h
  have hvl : vs.length = n := by rw [h.hl, hn]
  clear h
  have Hn := Lib.hid hn
  have Hv := Lib.hid hvl
  have Ht := Lib.hid ht
  clear hn hvl ht
  go_enter Tryz.func53, Tryz.ntmps53
  go_wp2_with fail
  go_loop [3, 11] (fun s i => ∃ k : Nat, k ≤ n ∧ i = .int .i64 k ∧ s = .int .i64 ((ls.take k).flatten.length : Nat)) (fun _ i => n - (intOf i).toNat)
  case atStart => exact ⟨0, by omega, rfl, rfl⟩
  case round =>
    obtain ⟨k, hk, rfl, rfl⟩ := hrel
    by_cases hlt : k < n
    · obtain ⟨v, hv⟩ : ∃ v, vs[k]? = some v := ⟨_, List.getElem?_eq_getElem (by rw [Hv.out]; exact hlt)⟩
      have hc := (H.out.hc k (by rw [Hv.out]; exact hlt)).trans hv
      obtain ⟨a, cp, rfl, -⟩ := (H.out.hb k v hv).1
      have Hf := Lib.hid (getD_flat ls k (by rw [← Hn.out]; exact hlt))
      have hle := flat_le ls (k + 1)
      have hsum : (ls.take (k + 1)).flatten.length = (ls.take k).flatten.length + (ls.getD k []).length := by rw [Hf.out, List.length_append]
      have htt := Ht.out
      have Hs := Lib.hid hsum
      have hb : (ls.take k).flatten.length + (ls.getD k []).length ≤ 100000000 := by omega
      clear hsum hle htt hv
      generalize (ls.take k).flatten.length = t at *
      generalize (ls.getD k []).length = m at *
      have hki : (k : Int) < (n : Int) := by omega
      have hk0 : (0 : Int) ≤ (k : Int) := by omega
      have hneg : ¬ ((t : Int) + (m : Int) < 0) := by omega
      go_wp2_with fail
      go_round
      case rel => exact ⟨k + 1, by omega, by go_num, by rw [Hs.out]; go_num⟩
      case measure => simp [intOf]; omega
    · obtain rfl : k = n := by omega
      have hfull : (ls.take k).flatten.length = ls.flatten.length := by rw [Hn.out, List.take_length]
      rw [hfull]
      have htt := Ht.out
      have HG := Lib.hid (growB_any ls.flatten.length (by omega) w)
      have Htot := Lib.hid hfull
      clear hfull
      generalize ls.flatten.length = tot at *
      go_wp2_with fail
      refine HG.out.mono ?_
      rintro e w1 ⟨v0, rfl, ho0, hb1⟩
      have HO0 := Lib.hid ho0
      have HB1 := Lib.hid hb1
      have H1 := Lib.hid (H.out.below hb1)
      have hs1 := hb1.size
      clear ho0 hb1 HG
      go_wp2_with fail
      go_loopw [6, 27] (fun u i wr => ∃ j : Nat, j ≤ k ∧ i = .int .i64 j ∧ wr.ownsRow w.heap.size 5 1 u (ls.take j).flatten.length (encN .u8 (ls.take j).flatten) ∧ Below w.heap.size w wr ∧ ListsB wr q vs ls) (fun _ i _ => k - (intOf i).toNat)
      case atStart => exact ⟨0, by omega, rfl, by simpa [encN] using HO0.out, HB1.out, H1.out⟩
      case round =>
        obtain ⟨j, hj, rfl, ho, hb, hL⟩ := hrel
        have HO := Lib.hid ho
        have HB := Lib.hid hb
        have HL := Lib.hid hL
        clear ho hb hL
        by_cases hlt2 : j < k
        · obtain ⟨v, hv⟩ : ∃ v, vs[j]? = some v := ⟨_, List.getElem?_eq_getElem (by rw [Hv.out]; exact hlt2)⟩
          have hc := (HL.out.hc j (by rw [Hv.out]; exact hlt2)).trans hv
          have Hb := Lib.hid ((HL.out.hb j v hv).1)
          obtain ⟨a, cp, rfl, -⟩ := (HL.out.hb j v hv).1
          have Hf := Lib.hid (getD_flat ls j (by rw [← Hn.out]; exact hlt2))
          have hle := flat_le ls (j + 1)
          have hsum : (ls.take (j + 1)).flatten.length = (ls.take j).flatten.length + (ls.getD j []).length := by rw [Hf.out, List.length_append]
          have hbd : (ls.take j).flatten.length + (ls.getD j []).length ≤ 100000000 := by have := Htot.out; rw [Hn.out, List.take_length] at this; omega
          have HOo := Lib.hid (own_base HO.out)
          have Hone := Lib.hid (encN_one .u8 (ls.getD j []))
          clear hle hsum hv
          have hki : (j : Int) < (k : Int) := by omega
          have hk0 : (0 : Int) ≤ (j : Int) := by omega
          go_wp2_with ((with_reducible refine wpList_append_reads (o := ⟨some 33, .call { callee := .builtin .append, args := #[.tmp 31, .tmp 32], argTypes := #[24, 24] }, _, _, _, none⟩) rfl _ _ 24 rfl 5 i0 (.int .u8 0) 1 1 Tryz.underlying24 hi hz0 hz1 hz2 ?_ ?_ _ _ _ ?_ HOo.out _ _ _ ?_ Hb.out Hone.out ?_ ?_ ?_); rfl; decide; rfl; rfl; (unfold maxLen; omega); omega; intro v3 w3 o3 g3)
          go_roundw
          case rel => exact ⟨j + 1, by omega, by go_num, by
              rw [Hf.out, encN_append, List.length_append]
              exact own_from o3 (fun g e => by
                rcases g3.2 g e with h' | h'
                · exact (HO.out.lt g h').1
                · have := HB.out.size; omega), HB.out.grown g3.1 HB.out.size (fun g e => (HO.out.lt g e).1), by
              have hbw : Below w.heap.size w w3 := HB.out.grown g3.1 HB.out.size (fun g e => (HO.out.lt g e).1)
              exact H.out.below hbw⟩
          case measure => simp [intOf]; omega
        · obtain rfl : j = k := by omega
          have hfull : (ls.take j).flatten = ls.flatten := by rw [Hn.out, List.take_length]
          have HO2 := Lib.hid (show wr.ownsRow w.heap.size 5 1 u6 ls.flatten.length (encN .u8 ls.flatten) from by rw [← hfull]; exact HO.out)
          clear hfull
          go_wp2_with fail
          go_ret
          exact ⟨_, rfl, HO2.out, HB.out⟩
set_option maxRecDepth 100000 in
set_option maxHeartbeats 1000000 in
theorem has32_any (a : Option Addr) (n c i : Nat) (hn : n ≤ 9223372036854775807) (w : World) :
    Calls Tryz.prog 98 #[.slice a n c, .int .i64 i] w fun e w' => e = .returned (.bool (decide (i + 4 ≤ n))) ∧ w = w' := by
  have h0 : (0 : Int) ≤ (i : Int) := by omega
  have hd : decide ((0 : Int) ≤ (i : Int)) = true := decide_eq_true h0
  go_enter Tryz.func98, Tryz.ntmps98
  go_wp2_with ((with_reducible refine (width_any _).mono ?_); rintro e w1 ⟨rfl, rfl⟩)
  all_goals
    go_ret
    exact ⟨ret_boolE (by rw [Bool.eq_iff_iff]; simp; omega), rfl⟩
theorem own_cur {W : World} {B e g n c : Nat} {xs : List Value} (h : W.ownsRow B e 1 (.slice (some ⟨g, 0, none⟩) n c) n xs) :
    ∃ cur : List Value, W.heap[g]? = some (.cells cur.toArray e (0, 0)) ∧ cur.length = c ∧ n ≤ c ∧ c ≤ maxLen ∧ cur.take n = xs ∧ B ≤ g := by
  obtain ⟨hl, ⟨h, _⟩ | ⟨g', cap, cur, hv, hb, hg, hn, hm, hcs, ht⟩⟩ := h
  · cases h
  · cases hv
    exact ⟨cur.toList, by simpa using hg, by simpa using hcs, hn, hm, by simpa using ht, hb⟩
theorem splice_take {cur cs : List Value} {n off : Nat} (h : off + cs.length ≤ n) (hn : n ≤ cur.length) : (splice cur off cs).take n = splice (cur.take n) off cs := by
  refine List.ext_getElem? fun j => ?_
  unfold splice
  rw [List.getElem?_take]
  have l1 : (cur.take off).length = off := by rw [List.length_take]; omega
  have l2 : ((cur.take n).take off).length = off := by rw [List.length_take, List.length_take]; omega
  by_cases hj : j < n
  · rw [if_pos hj]
    by_cases c1 : j < off
    · rw [List.getElem?_append_left (by omega), List.getElem?_append_left (by omega), List.getElem?_take, List.getElem?_take, List.getElem?_take, if_pos c1, if_pos c1, if_pos hj]
    · rw [List.getElem?_append_right (l₁ := cur.take off) (by omega), List.getElem?_append_right (l₁ := (cur.take n).take off) (by omega), l1, l2]
      by_cases c2 : j - off < cs.length
      · rw [List.getElem?_append_left c2, List.getElem?_append_left c2]
      · rw [List.getElem?_append_right (l₂ := cur.drop (off + cs.length)) (by omega), List.getElem?_append_right (l₂ := (cur.take n).drop (off + cs.length)) (by omega), List.getElem?_drop, List.getElem?_drop, List.getElem?_take, if_pos (by omega)]
  · rw [if_neg hj, List.getElem?_eq_none]
    simp only [List.length_append, List.length_drop, List.length_take]; omega
theorem own_splice {W' : World} {B e g n c : Nat} {xs cs cur : List Value} {off : Nat} (hl : xs.length = n) (hc : cur.length = c) (hnc : n ≤ c) (hcm : c ≤ maxLen) (ht : cur.take n = xs) (hB : B ≤ g)
    (hg : W'.heap[g]? = some (.cells (splice cur off cs).toArray e (0, 0))) (h : off + cs.length ≤ n) : W'.ownsRow B e 1 (.slice (some ⟨g, 0, none⟩) n c) n (splice xs off cs) := by
  have h1 := splice_take h (by omega : n ≤ cur.length)
  rw [ht] at h1
  refine ⟨?_, .inr ⟨g, c, _, rfl, hB, hg, hnc, hcm, ?_, ?_⟩⟩
  · unfold splice; simp only [List.length_append, List.length_take, List.length_drop]; omega
  · unfold splice; simp only [List.size_toArray, List.length_append, List.length_take, List.length_drop]; omega
  · rw [Nat.mul_one]; simpa using h1
theorem with_splice (b : List Nat) (at_ x : Nat) : splice (encN .u8 b) at_ (encN .u8 (le4 x)) = encN .u8 (withN b at_ x) := by
  unfold splice withN
  rw [encN_append, encN_append, encN_length, le4_length]
  simp [encN, List.map_take, List.map_drop]
set_option maxRecDepth 100000 in
set_option maxHeartbeats 2000000 in
theorem with_any (v : Value) (b : List Nat) (i x : Nat) (hx : x < 4294967296) (hi : i + 4 ≤ b.length) (hn : b.length ≤ 140737488355328) (w : World) (hv : Bytes w v b) :
    Calls Tryz.prog 57 #[v, .int .i64 i, .int .u32 x] w fun e w' => ∃ u, e = .returned (.tuple #[u, .int .i64 0]) ∧ w'.ownsRow w.heap.size 5 1 u (withN b i x).length (encN .u8 (withN b i x)) ∧ Below w.heap.size w w' := by
  have hsz5 : (Tryz.prog.info? 5).map (·.size) = some 1 := by kernel_rfl
  have HC := Lib.hid (fun W hW => cloneC_any v b.length (encN .u8 b) (by omega) (encN_one .u8 b) W hW)
  have HV := Lib.hid hv
  obtain ⟨a, c, rfl, -, hnc, hcm, -, -⟩ := hv.1
  have hn9 : b.length ≤ 9223372036854775807 := by omega
  have Hh := Lib.hid (fun W => has32_any a b.length c i hn9 W)
  clear hn9
  have hd : decide (i + 4 ≤ b.length) = true := decide_eq_true hi
  rw [hd] at Hh
  have Hone := Lib.hid (encN_one .u8 (le4 x))
  clear hd hv
  go_enter Tryz.func57, Tryz.ntmps57
  go_wp2_with fail
  refine (Hh.out _).mono ?_
  rintro e w1 ⟨rfl, rfl⟩
  go_wp2_with fail
  refine (HC.out _ HV.out.1).mono ?_
  rintro e w1 ⟨u, rfl, ho, hb⟩
  obtain ⟨a2, c2, rfl, -, -, hp⟩ := own_sl ho
  obtain ⟨g, rfl, hg, -⟩ := hp (by omega)
  have HO := Lib.hid ho
  have HB := Lib.hid hb
  have hi0 : (0 : Int) ≤ (i : Int) := by omega
  have hi1 : (i : Int) ≤ (b.length : Int) := by omega
  clear ho hb hp HC Hh
  go_wp2_with fail
  have HL := Lib.hid (fun W => lay_any (.slice none 0 0) 0 [] x hx W (World.ownsRow_nil _ _ _ _) (by omega))
  have HR := Lib.hid (Below.refl w1.heap.size w1)
  obtain ⟨cur, q1, q2, q3, q4, q5, q6⟩ := own_cur HO.out
  have HQ := Lib.hid q1
  have HQ5 := Lib.hid q5
  have hcl : i + (encN .u8 (le4 x)).length ≤ cur.length := by rw [encN_length, le4_length]; omega
  have HCL := Lib.hid hcl
  have HMin := Lib.hid (show (encN .u8 (le4 x)).length = Nat.min 4 (b.length - i) from by rw [encN_length, le4_length]; exact (Nat.min_eq_left (by omega)).symm)
  clear q1 q5 hcl
  go_region_held3 (fun w' => Below w.heap.size w w')
    (first | exact HB.out.drew | exact HB.out | assumption)
    (first
      | (go_at_call 96; refine (HL.out _).mono ?_; rintro e w' ⟨v4, rfl, o4, g4⟩; have hS4 := Bel.tr HR.out.drew g4.bel; have hS5 := Bel.tr HB.out hS4; obtain ⟨g4', c4, rfl, hc4a, hc4b, hg4, hx4⟩ := own_form o4 (by decide); have HX4 := Lib.hid hx4; have HG4 := Lib.hid ((hS4.block g hg).trans HQ.out); clear hx4)
      | (refine step_copy_splice rfl (.tmp 17) (.tmp 19) 24 24 rfl 5 Tryz.underlying24 hsz5 (some ⟨g, i, none⟩) (some ⟨g4', 0, none⟩) (b.length - i) (c2 - i) (0 + 4) c4 (by simp [Act.eval]) (by simp [Act.eval]) g i cur 5 HG4.out (encN .u8 (le4 x)) HMin.out (fun _ => ⟨rfl, _, rfl, fun j v hj => by rw [Addr.add_mid, Nat.zero_add, HX4.out j (by simpa using (List.getElem?_eq_some_iff.1 hj).1)]; simpa using hj⟩) HCL.out Hone.out w.heap.size w (Bel.tr HB.out hS4) q6 ?_; intro w5 hg5 hb5))
  have HF := Lib.hid (show w5.ownsRow w.heap.size 5 1 (.slice (some ⟨g, 0, none⟩) b.length c2) (withN b i x).length (encN .u8 (withN b i x)) from by
    rw [← with_splice, withN_length hi]
    exact own_splice (by rw [encN_length]) q2 q3 q4 HQ5.out q6 hg5.out (by rw [encN_length, le4_length]; exact hi))
  have HB5 := Lib.hid (show Below w.heap.size w w5 from hb5)
  go_wp2
  go_ret2
  exact ⟨_, rfl, HF.out, HB5.out⟩
theorem own_bytes {w : World} {B n : Nat} {v : Value} {b : List Nat} (h : w.ownsRow B 5 1 v n (encN .u8 b)) (hb : ∀ x ∈ b, x < 256) : Bytes w v b := by
  have hl : n = b.length := by have := h.1; rw [encN_length] at this; omega
  subst hl
  exact ⟨Reads.own (own_base h) (by decide), hb⟩
theorem le4_lt (x : Nat) : ∀ y ∈ le4 x, y < 256 := by
  intro y hy
  simp only [le4, List.mem_cons, List.not_mem_nil, or_false] at hy
  rcases hy with rfl | rfl | rfl | rfl <;> exact Nat.mod_lt _ (by decide)
theorem withN_lt {b : List Nat} (h : ∀ y ∈ b, y < 256) (i x : Nat) : ∀ y ∈ withN b i x, y < 256 := by
  intro y hy
  unfold withN at hy
  rcases List.mem_append.1 hy with hy | hy
  · exact h y (List.mem_of_mem_take hy)
  · rcases List.mem_append.1 hy with hy | hy
    · exact le4_lt x y hy
    · exact h y (List.mem_of_mem_drop hy)
set_option maxRecDepth 100000 in
set_option maxHeartbeats 1000000 in
theorem sealed_any (v : Value) (b : List Nat) (hb : 12 ≤ b.length) (hn : b.length ≤ 100000000) (w : World) (hv : Bytes w v b) :
    Calls Tryz.prog 81 #[v] w fun e w' => ∃ u, e = .returned u ∧ w'.ownsRow w.heap.size 5 1 u (sealedN b).length (encN .u8 (sealedN b)) ∧ Below w.heap.size w w' := by
  have H1 := Lib.hid (with_any v b 8 0 (by decide) (by omega) (by omega) w hv)
  have hl := withN_length (b := b) (at_ := 8) (x := 0) (by omega)
  have hlt := withN_lt hv.2 8 0
  have HSe := Lib.hid (show sealedN b = withN (withN b 8 0) 8 (sumN (withN b 8 0)) from rfl)
  generalize withN b 8 0 = c at *
  obtain ⟨a0, c0, rfl, -⟩ := hv.1
  have HLT := Lib.hid hlt
  clear hv hlt
  go_enter Tryz.func81, Tryz.ntmps81
  go_wp2_with fail
  refine H1.out.mono ?_
  rintro e w1 ⟨u, rfl, ho, hb1⟩
  have HC := Lib.hid (own_bytes ho HLT.out)
  have HB1 := Lib.hid hb1
  obtain ⟨a2, c2, rfl, -⟩ := own_sl ho
  have H2 := Lib.hid (sum_bytes _ c w1 HC.out)
  have H3 := Lib.hid (with_any _ c 8 (sumN c) (sumN_lt c) (by omega) (by omega) w1 HC.out)
  rw [← HSe.out] at H3
  clear ho hb1 H1
  rw [hl] at H2 H3
  generalize sumN c = x at *
  go_wp2_with fail
  refine H2.out.mono ?_
  rintro e w2 ⟨rfl, rfl⟩
  go_wp2_with fail
  refine H3.out.mono ?_
  rintro e w2 ⟨u2, rfl, ho2, hb2⟩
  have HO := Lib.hid (own_from (own_base ho2) (B := w.heap.size) (fun g e => Nat.le_trans HB1.out.size (ho2.lt g e).1))
  have HB2 := Lib.hid (Bel.tr HB1.out hb2)
  obtain ⟨a3, c3, rfl, -⟩ := own_sl ho2
  clear ho2 hb2
  go_wp2_with fail
  go_ret
  exact ⟨_, rfl, HO.out, HB2.out⟩
def encS (l : List (Nat × Nat)) : List Value := l.flatMap fun s => [.int .u32 s.1, .int .u32 s.2]
theorem encS_length (l : List (Nat × Nat)) : (encS l).length = l.length * 2 := by
  induction l with
  | nil => rfl
  | cons p l ih => rw [show encS (p :: l) = [.int .u32 p.1, .int .u32 p.2] ++ encS l from rfl, List.length_append, ih]; simp; omega
theorem encS_append (l m : List (Nat × Nat)) : encS (l ++ m) = encS l ++ encS m := by simp [encS]
theorem encS_at (l : List (Nat × Nat)) : ∀ k, k < l.length → (encS l)[k * 2]? = some (.int .u32 (l.getD k (0, 0)).1) ∧ (encS l)[k * 2 + 1]? = some (.int .u32 (l.getD k (0, 0)).2) := by
  induction l with
  | nil => intro k h; simp at h
  | cons p l ih =>
    intro k h
    have e : encS (p :: l) = [.int .u32 p.1, .int .u32 p.2] ++ encS l := rfl
    cases k with
    | zero => rw [e]; exact ⟨rfl, rfl⟩
    | succ k =>
      obtain ⟨h1, h2⟩ := ih k (by simpa using h)
      rw [e]
      have f : ∀ t, ([.int .u32 p.1, .int .u32 p.2] ++ encS l : List Value)[(k + 1) * 2 + t]? = (encS l)[k * 2 + t]? := fun t => by
        rw [List.getElem?_append_right (by simp; omega)]; congr 1; simp; omega
      exact ⟨(f 0).trans h1, (f 1).trans h2⟩
theorem spansL_length : ∀ (a : Nat) (l : List Nat), (spansL a l).length = l.length
  | _, [] => rfl
  | a, n :: l => by rw [spansL, List.length_cons, List.length_cons, spansL_length (a + n) l]
theorem spansL_take : ∀ (l : List Nat) (a k : Nat), k < l.length → (spansL a l).take (k + 1) = (spansL a l).take k ++ [(a + (l.take k).sum, l.getD k 0)]
  | [], a, k, h => by simp at h
  | n :: l, a, 0, h => by simp [spansL]
  | n :: l, a, k + 1, h => by
    have := spansL_take l (a + n) k (by simpa using h)
    rw [spansL, List.take_succ_cons, this, List.take_succ_cons, List.cons_append, List.take_succ_cons, List.sum_cons, Nat.add_assoc]
    rfl
theorem sum_take_le : ∀ (l : List Nat) (k : Nat), (l.take k).sum ≤ l.sum
  | [], k => by simp
  | n :: l, 0 => by simp
  | n :: l, k + 1 => by have := sum_take_le l k; simp only [List.take_succ_cons, List.sum_cons]; omega
theorem sum_take_succ : ∀ (l : List Nat) (k : Nat), k < l.length → (l.take (k + 1)).sum = (l.take k).sum + l.getD k 0
  | [], k, h => by simp at h
  | n :: l, 0, h => by simp
  | n :: l, k + 1, h => by
    have := sum_take_succ l k (by simpa using h)
    simp only [List.take_succ_cons, List.sum_cons, List.getD_cons_succ] at this ⊢
    omega
theorem info225 : (Tryz.prog.info? 155).map (fun i => (i.zero, i.size, i.bytes)) = some (some (.agg #[.int .u32 0, .int .u32 0]), 2, 8) := by kernel_rfl
theorem run_b225 (x y : Int) (w : World) : (Instr.build 155 #[(0, .int .u32 x), (1, .int .u32 y)]).run Tryz.prog w = .ok (.agg #[.int .u32 x, .int .u32 y]) w := by kernel_rfl
theorem run_bs221 (x y : Int) (w : World) : (Instr.buildSlice 151 1 #[(0, .agg #[.int .u32 x, .int .u32 y])]).run Tryz.prog w = .ok (.slice (some ⟨w.heap.size, 0, none⟩) 1 1) (w.alloc (.cells #[.int .u32 x, .int .u32 y] 155)) := by kernel_rfl
set_option maxRecDepth 100000 in
set_option maxHeartbeats 1000000 in
theorem laySpans_any (v : Value) (first : Nat) (l : List Nat) (hl : l.length ≤ 1000) (hs : first + l.sum < 4294967296) (w : World) (hv : Words w v l) :
    Calls Tryz.prog 80 #[.int .u32 first, v] w fun e w' => ∃ u, e = .returned (.tuple #[u, .int .i64 0]) ∧ w'.ownsRow w.heap.size 155 2 u l.length (encS (spansL first l)) ∧ Below w.heap.size w w' := by
  obtain ⟨i0, hi, hz0, hz1, hz2⟩ := info_parts info225
  have hb225 := run_b225
  have hb221 := run_bs221
  obtain ⟨⟨a, cap, rfl, hll, hnc, hcm, hnil, hp⟩, hlt⟩ := hv
  have Hp := Lib.hid hp
  have Hlt := Lib.hid hlt
  have Hs := Lib.hid hs
  have hf32 : first < 4294967296 := by omega
  clear hp hlt hs hnil hll
  go_enter Tryz.func80, Tryz.ntmps80
  go_wp2_with fail
  go_loopw [6, 7, 14] (fun p u i wr => ∃ k : Nat, k ≤ l.length ∧ i = .int .i64 k ∧ p = .int .u64 ((first + (l.take k).sum : Nat) : Int) ∧ wr.ownsRow w.heap.size 155 2 u k (encS ((spansL first l).take k)) ∧ Below w.heap.size w wr) (fun _ _ i _ => l.length - (intOf i).toNat)
  case atStart => exact ⟨0, by omega, rfl, by simp, World.ownsRow_nil _ _ _ _, Below.refl _ _⟩
  case round =>
    obtain ⟨k, hk, rfl, rfl, ho, hb⟩ := hrel
    have HO := Lib.hid ho
    have HB := Lib.hid hb
    clear ho hb
    by_cases hlt : k < l.length
    · obtain ⟨b, off, rfl, hbl, hc⟩ := Hp.out (by omega)
      have hcc := hc k (by rw [encN_length]; exact hlt)
      rw [encN_at _ l k hlt] at hcc
      have hcell := (HB.out.cell (p := ⟨b, off + k, none⟩) hbl).trans hcc
      have Ht := Lib.hid (spansL_take l first k hlt)
      have Hsum := Lib.hid (sum_take_succ l k hlt)
      have hle := sum_take_le l (k + 1)
      have hss := Hs.out
      have hx := Hlt.out k
      have hbd : first + (l.take k).sum + l.getD k 0 ≤ 4294967295 := by rw [Hsum.out] at hle; omega
      have HOo := Lib.hid (own_base HO.out)
      clear hc hcc hle hss
      generalize l.getD k 0 = x at *
      generalize (l.take k).sum = s at *
      have hw : IntKind.u32.wrap ((first + s : Nat) : Int) = ((first + s : Nat) : Int) := u32_wrap _ (by omega)
      have hki : (k : Int) < (l.length : Int) := by omega
      have hk0 : (0 : Int) ≤ (k : Int) := by omega
      go_wp2_with ((with_reducible refine wpList_append1B (o := ⟨some 24, .call { callee := .builtin .append, args := #[.tmp 18, .tmp 23], argTypes := #[151, 151] }, _, _, _, none⟩) rfl _ _ 151 rfl 155 i0 (.agg #[.int .u32 0, .int .u32 0]) 2 8 Tryz.underlying151 hi hz0 hz1 hz2 ?_ ?_ _ _ _ HOo.out _ _ wr.heap.size ?_ ?_ ?_ ?_ ?_ ?_ ?_ ?_); rfl; decide; rfl; rfl; rfl; rfl; (simp [Value.oneCell']); (unfold maxLen; omega); omega; intro g c w1 hr1 hg1 hl1)
      go_roundw
      case rel => exact ⟨k + 1, by omega, by go_num, by rw [Hsum.out]; go_num, by
          rw [Ht.out, encS_append]
          exact own_from hr1 (fun g' e => by
            rcases hg1.2 g' e with h' | h'
            · exact (HO.out.lt g' h').1
            · have := HB.out.size; omega), HB.out.grown hg1.1 HB.out.size (fun g' e => (HO.out.lt g' e).1)⟩
      case measure => simp [intOf]; omega
    · obtain rfl : k = l.length := by omega
      have HF := Lib.hid (show wr.ownsRow w.heap.size 155 2 u7 l.length (encS (spansL first l)) from by
        have := HO.out
        rwa [List.take_of_length_le (by rw [spansL_length]; exact Nat.le_refl _)] at this)
      go_wp2_with fail
      go_ret2
      exact ⟨_, rfl, HF.out, HB.out⟩
attribute [local go_sem ↓] Go.wp_at_zero Go.wp_at_succ
theorem nameB_lt (n : ByteArray × Nat) : ∀ x ∈ nameB n, x < 256 := by
  intro x hx
  unfold nameB at hx
  rcases List.mem_append.1 hx with hx | hx
  · exact le4_lt _ x hx
  · rcases List.mem_append.1 hx with hx | hx
    · rw [List.mem_singleton.1 hx]; exact Nat.mod_lt _ (by decide)
    · obtain ⟨b, _, rfl⟩ := List.mem_map.1 hx
      exact b.toNat_lt
theorem namesB_lt (lx : List (ByteArray × Nat)) : ∀ x ∈ namesB lx, x < 256 := by
  intro x hx
  obtain ⟨n, _, hn⟩ := List.mem_flatMap.1 hx
  exact nameB_lt n x hn
theorem namesB_take (lx : List (ByteArray × Nat)) (k : Nat) (hk : k < lx.length) : namesB (lx.take (k + 1)) = namesB (lx.take k) ++ nameB (lx.getD k (ByteArray.empty, 0)) := by
  unfold namesB
  rw [List.take_add_one, List.getElem?_eq_getElem hk, List.flatMap_append, List.getD_eq_getElem?_getD, List.getElem?_eq_getElem hk]
  simp
theorem byN_length (s : ByteArray) : (byN s).length = s.size := by unfold byN; rw [List.length_map, Array.length_toList]; rfl
theorem nameB_length (n : ByteArray × Nat) : (nameB n).length = 5 + n.1.size := by
  simp only [nameB, List.length_append, le4_length, List.length_cons, List.length_nil, byN_length]; omega
theorem byN_lt (s : ByteArray) : ∀ x ∈ byN s, x < 256 := by
  intro x hx
  obtain ⟨b, _, rfl⟩ := List.mem_map.1 hx
  exact b.toNat_lt
theorem put8_one (b : Nat) (x : Nat) (hx : x < 256) (w : World) (hc : w.cell? ⟨b, 0, none⟩ = some (.int .u8 x)) :
    Calls Tryz.prog 79 #[.slice (some ⟨b, 0, none⟩) 1 1] w fun e w' => ∃ v, e = .returned v ∧ w'.ownsRow w.heap.size 5 1 v 1 (encN .u8 [x]) ∧ Below w.heap.size w w' := by
  refine (put8_any (some ⟨b, 0, none⟩) 1 [x] (by simpa using hx) w ⟨some ⟨b, 0, none⟩, 1, rfl, rfl, Nat.le_refl _, by decide, (fun h => by cases h), fun _ => ⟨b, 0, rfl, World.block_lt_of_cell? w _ hc, fun j hj => ?_⟩⟩ (by simp)).mono ?_
  · have : j = 0 := by simp [encN] at hj; exact hj
    subst this
    exact hc
  · rintro e w' ⟨v', rfl, hown, hg⟩
    exact ⟨v', rfl, own_from hown (fun g e => (hg.2 g e).resolve_left (by simp [Value.ownBlock])), hg.bel⟩
theorem put4_one (b : Nat) (x : Nat) (hx : x < 4294967296) (w : World) (hc : w.cell? ⟨b, 0, none⟩ = some (.int .u32 x)) :
    Calls Tryz.prog 54 #[.slice (some ⟨b, 0, none⟩) 1 1] w fun e w' => ∃ v, e = .returned v ∧ w'.ownsRow w.heap.size 5 1 v 4 (encN .u8 (le4 x)) ∧ Below w.heap.size w w' := by
  refine (put_any (some ⟨b, 0, none⟩) 1 [x] (by simpa using hx) w ⟨some ⟨b, 0, none⟩, 1, rfl, rfl, Nat.le_refl _, by decide, (fun h => by cases h), fun _ => ⟨b, 0, rfl, World.block_lt_of_cell? w _ hc, fun j hj => ?_⟩⟩ (by simp)).mono ?_
  · have : j = 0 := by simp [encN] at hj; exact hj
    subst this
    exact hc
  · rintro e w' ⟨v', rfl, hown, hg⟩
    refine ⟨v', rfl, ?_, hg.bel⟩
    have h := own_from hown (fun g e => (hg.2 g e).resolve_left (by simp [Value.ownBlock]))
    simpa [le4s] using h
theorem below_bytes (w : World) (s : ByteArray) : Below w.heap.size w (Go.Lib.bytesWorld w 5 s) :=
  ⟨rfl, rfl, rfl, by rw [Go.Lib.bytesWorld_size]; omega, fun k hk => Go.Lib.bytesWorld_at_old w 5 s k hk⟩
theorem cell1_new (w : World) (v : Value) (t : TypeId) {b : Nat} (hb : b = w.heap.size) : (w.alloc (.cells #[v] t)).cell? ⟨b, 0, none⟩ = some v := by subst hb; simp [go_sem]
theorem cell_dr {w : World} {a : Addr} {v : Value} (h : w.cell? a = some v) : w.drew.cell? a = some v := h
theorem cell_alE {w : World} {a : Addr} {v : Value} {o : Obj} (h : w.cell? a = some v) : (w.alloc o).cell? a = some v := ((Bel.new w o).cell (p := a) (World.block_lt_of_cell? w a h)).trans h
theorem cell_by {w : World} {a : Addr} {v : Value} {s : ByteArray} (h : w.cell? a = some v) : (Go.Lib.bytesWorld w 5 s).cell? a = some v := ((below_bytes w s).cell (p := a) (World.block_lt_of_cell? w a h)).trans h
theorem cell_be {w w' : World} {a : Addr} {v : Value} (hb : Below w.heap.size w w') (h : w.cell? a = some v) : w'.cell? a = some v := (hb.cell (p := a) (World.block_lt_of_cell? w a h)).trans h
theorem bel_by {w w1 : World} {s : ByteArray} (h : Below w.heap.size w w1) : Below w.heap.size w (Go.Lib.bytesWorld w1 5 s) := Bel.tr h (below_bytes w1 s)
theorem bytes_conv (w : World) (s : ByteArray) (hs : s.size ≤ 1000) {b c : Nat} (hb : b = w.heap.size) (hc : c = grownCap w s.size 0 5) : Bytes (Go.Lib.bytesWorld w 5 s) (.slice (some ⟨b, 0, none⟩) s.size c) (byN s) := by
  subst hb hc
  refine ⟨⟨some ⟨w.heap.size, 0, none⟩, grownCap w s.size 0 5, by rw [byN_length], by rw [encN_length, Nat.mul_one], ?_, grownCap_le_maxLen w s.size 0 5 (by unfold maxLen; omega), (fun h => by cases h), fun _ => ⟨w.heap.size, 0, rfl, by rw [Go.Lib.bytesWorld_size]; omega, fun j hj => ?_⟩⟩, byN_lt s⟩
  · rw [byN_length]; exact grownCap_ge w s.size 0 5
  · rw [encN_length, byN_length] at hj
    rw [Nat.zero_add, Go.Lib.bytesWorld_cell w 5 s j hj]
    have hj2 : j < s.data.size := hj
    simp only [encN, byN, List.getD_eq_getElem?_getD, List.map_map, List.getElem?_map, Array.getElem?_toList]
    rw [Array.getElem?_eq_getElem hj2]
    rfl
theorem own_down {w : World} {B B' e sz n : Nat} {v : Value} {xs : List Value} (h : w.ownsRow B' e sz v n xs) (hb : B ≤ B') : w.ownsRow B e sz v n xs := own_from (own_base h) (fun g e => Nat.le_trans hb (h.lt g e).1)
theorem concat4 (w : World) (v0 v1 v2 v3 : Value) (l0 l1 l2 l3 : List Nat) (ht : l0.length + l1.length + l2.length + l3.length ≤ 100000000) (h0 : Bytes w v0 l0) (h1 : Bytes w v1 l1) (h2 : Bytes w v2 l2) (h3 : Bytes w v3 l3) :
    Calls Tryz.prog 53 #[.slice (some ⟨w.heap.size, 0, none⟩) 4 4] (w.alloc (.cells #[v0, v1, v2, v3] 24)) fun e w' => ∃ v, e = .returned v ∧ w'.ownsRow w.heap.size 5 1 v (l0.length + l1.length + l2.length + l3.length) (encN .u8 (l0 ++ l1 ++ l2 ++ l3)) ∧ Below (w.alloc (.cells #[v0, v1, v2, v3] 24)).heap.size (w.alloc (.cells #[v0, v1, v2, v3] 24)) w' := by
  have hb : Below w.heap.size w (w.alloc (.cells #[v0, v1, v2, v3] 24)) := Bel.new w _
  have hsz : (w.alloc (.cells #[v0, v1, v2, v3] 24)).heap.size = w.heap.size + 1 := by simp
  have hfl : [l0, l1, l2, l3].flatten = l0 ++ l1 ++ l2 ++ l3 := by simp
  have hlen : (l0 ++ l1 ++ l2 ++ l3).length = l0.length + l1.length + l2.length + l3.length := by simp [List.length_append, Nat.add_assoc]
  refine (concat_any w.heap.size 4 4 [v0, v1, v2, v3] [l0, l1, l2, l3] rfl (by decide) (by rw [hfl, hlen]; exact ht) _ ⟨rfl, by rw [hsz]; omega, fun j hj => ?_, fun j v hv => ?_⟩).mono ?_
  · have : j = 0 ∨ j = 1 ∨ j = 2 ∨ j = 3 := by simp at hj; omega
    rcases this with rfl | rfl | rfl | rfl <;> simp [go_sem]
  · have hj : j < 4 := by
      have := (List.getElem?_eq_some_iff.1 hv).1
      simpa using this
    have : j = 0 ∨ j = 1 ∨ j = 2 ∨ j = 3 := by omega
    rcases this with rfl | rfl | rfl | rfl
    · obtain rfl : v0 = v := by simpa using hv
      exact h0.below hb
    · obtain rfl : v1 = v := by simpa using hv
      exact h1.below hb
    · obtain rfl : v2 = v := by simpa using hv
      exact h2.below hb
    · obtain rfl : v3 = v := by simpa using hv
      exact h3.below hb
  · rintro e w' ⟨v, rfl, ho, hb'⟩
    rw [hfl, hlen] at ho
    exact ⟨v, rfl, own_down ho (by rw [hsz]; omega), hb'⟩
theorem namesB_len (lx : List (ByteArray × Nat)) (h : ∀ j, j < lx.length → (lx.getD j (ByteArray.empty, 0)).1.size ≤ 1000) : ∀ k, k ≤ lx.length → (namesB (lx.take k)).length ≤ k * 2000
  | 0, _ => by simp [namesB]
  | k + 1, hk => by
    have ih := namesB_len lx h k (by omega)
    have := h k (by omega)
    rw [namesB_take lx k (by omega), List.length_append, nameB_length]
    omega
theorem lists4 (w : World) (v0 v1 v2 v3 : Value) (l0 l1 l2 l3 : List Nat) (h0 : Bytes w v0 l0) (h1 : Bytes w v1 l1) (h2 : Bytes w v2 l2) (h3 : Bytes w v3 l3) :
    ListsB (w.alloc (.cells #[v0, v1, v2, v3] 24)) w.heap.size [v0, v1, v2, v3] [l0, l1, l2, l3] := by
  have hb : Below w.heap.size w (w.alloc (.cells #[v0, v1, v2, v3] 24)) := Bel.new w _
  refine ⟨rfl, by simp, fun j hj => ?_, fun j v hv => ?_⟩
  · have : j = 0 ∨ j = 1 ∨ j = 2 ∨ j = 3 := by simp at hj; omega
    rcases this with rfl | rfl | rfl | rfl <;> simp [go_sem]
  · have hj : j < 4 := by
      have := (List.getElem?_eq_some_iff.1 hv).1
      simpa using this
    have : j = 0 ∨ j = 1 ∨ j = 2 ∨ j = 3 := by omega
    rcases this with rfl | rfl | rfl | rfl
    · obtain rfl : v0 = v := by simpa using hv
      exact h0.below hb
    · obtain rfl : v1 = v := by simpa using hv
      exact h1.below hb
    · obtain rfl : v2 = v := by simpa using hv
      exact h2.below hb
    · obtain rfl : v3 = v := by simpa using hv
      exact h3.below hb
theorem lists2 (w : World) (v0 v1 : Value) (l0 l1 : List Nat) (h0 : Bytes w v0 l0) (h1 : Bytes w v1 l1) :
    ListsB (w.alloc (.cells #[v0, v1] 24)) w.heap.size [v0, v1] [l0, l1] := by
  have hb : Below w.heap.size w (w.alloc (.cells #[v0, v1] 24)) := Bel.new w _
  refine ⟨rfl, by simp, fun j hj => ?_, fun j v hv => ?_⟩
  · have : j = 0 ∨ j = 1 := by simp at hj; omega
    rcases this with rfl | rfl <;> simp [go_sem]
  · have hj : j < 2 := by
      have := (List.getElem?_eq_some_iff.1 hv).1
      simpa using this
    have : j = 0 ∨ j = 1 := by omega
    rcases this with rfl | rfl
    · obtain rfl : v0 = v := by simpa using hv
      exact h0.below hb
    · obtain rfl : v1 = v := by simpa using hv
      exact h1.below hb
theorem ListsB.at {w : World} {q : Nat} {vs : List Value} {ls : List (List Nat)} (h : ListsB w q vs ls) (k : Nat) (hk : k < ls.length) : ∃ a c, w.cell? ⟨q, k, none⟩ = some (.slice a (ls.getD k []).length c) ∧ Bytes w (.slice a (ls.getD k []).length c) (ls.getD k []) := by
  have hv : k < vs.length := by rw [h.hl]; exact hk
  obtain ⟨v, hv'⟩ : ∃ v, vs[k]? = some v := ⟨_, List.getElem?_eq_getElem hv⟩
  have hb := h.hb k v hv'
  have hc := h.hc k hv
  obtain ⟨⟨a, c, rfl, rest⟩, hlt⟩ := hb
  exact ⟨a, c, hc.trans hv', ⟨⟨a, c, rfl, rest⟩, hlt⟩⟩
theorem concat2 (w : World) (v0 v1 : Value) (l0 l1 : List Nat) (ht : (l0 ++ l1).length ≤ 100000000) (h0 : Bytes w v0 l0) (h1 : Bytes w v1 l1) :
    Calls Tryz.prog 53 #[.slice (some ⟨w.heap.size, 0, none⟩) 2 2] (w.alloc (.cells #[v0, v1] 24)) fun e w' => ∃ v, e = .returned v ∧ w'.ownsRow w.heap.size 5 1 v (l0 ++ l1).length (encN .u8 (l0 ++ l1)) ∧ Below w.heap.size w w' := by
  have hfl : [l0, l1].flatten = l0 ++ l1 := by simp
  refine (concat_any w.heap.size 2 2 [v0, v1] [l0, l1] rfl (by decide) (by rw [hfl]; exact ht) _ (lists2 w v0 v1 l0 l1 h0 h1)).mono ?_
  rintro e w' ⟨v, rfl, ho, hb'⟩
  rw [hfl] at ho
  exact ⟨v, rfl, own_down ho (by simp), Bel.of hb'⟩
theorem encode_lt (l : List (Nat × Nat)) (h : ∀ i ∈ l, i.1 < 256 ∧ i.2 < 4294967296) : ∀ x ∈ encode l, x < 256 := by
  intro x hx
  obtain ⟨i, hi, hx⟩ := List.mem_flatMap.1 hx
  rcases List.mem_cons.1 hx with rfl | hx
  · exact (h i hi).1
  · exact le4_lt _ x (List.mem_of_mem_take hx)
theorem le4s_lt (l : List Nat) : ∀ x ∈ le4s l, x < 256 := by
  intro x hx
  obtain ⟨i, _, hx⟩ := List.mem_flatMap.1 hx
  exact le4_lt _ x hx
theorem words_lt {w : World} {v : Value} {l : List Nat} (h : Words w v l) : ∀ x ∈ l, x < 4294967296 := by
  intro x hx
  obtain ⟨k, hk, rfl⟩ := List.getElem_of_mem hx
  have := h.2 k
  rwa [List.getD_eq_getElem?_getD, List.getElem?_eq_getElem hk] at this
theorem put_new (l : List Nat) (hl : ∀ i ∈ l, i < 4294967296) (hn : l.length ≤ 1000) (w : World) (n : Nat) (hn2 : n = l.length) (cs : Array Value) (hcs : cs.toList = encN .u32 l) :
    Calls Tryz.prog 54 #[.slice (some ⟨w.heap.size, 0, none⟩) n n] (w.alloc (.cells cs 25)) fun e w' => ∃ v, e = .returned v ∧ w'.ownsRow w.heap.size 5 1 v (4 * l.length) (encN .u8 (le4s l)) ∧ Below w.heap.size w w' := by
  subst hn2
  refine (put_any (some ⟨w.heap.size, 0, none⟩) l.length l hl _ ⟨some ⟨w.heap.size, 0, none⟩, l.length, rfl, by rw [encN_length, Nat.mul_one], Nat.le_refl _, by unfold maxLen; omega, (fun h => by cases h), fun _ => ⟨w.heap.size, 0, rfl, by simp, fun j hj => ?_⟩⟩ (by omega)).mono ?_
  · rw [← hcs] at hj ⊢
    simp [go_sem]
  · rintro e w' ⟨v', rfl, hown, hg⟩
    exact ⟨v', rfl, own_from hown (fun g e => by
      have := (hg.2 g e).resolve_left (by simp [Value.ownBlock])
      simp at this
      omega), Bel.of hg.bel⟩
end Go.Proofs.YtflpbgdghaaiaaaGreat
