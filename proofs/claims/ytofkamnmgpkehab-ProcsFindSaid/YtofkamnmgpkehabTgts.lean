import Derived.Test.YtofkamnmgpkehabAim1
import Derived.Test.YtofkamnmgpkehabOwnB
import Derived.Test.YtofkamnmgpkehabRange
import Derived.Lib.Walk
import Derived.Test.YtofkamnmgpkehabAim
import Derived.Test.YtofkamnmgpkehabLent
/- slices.Clone of words; procs.Targets. -/
namespace Go.Proofs.Ytofkamnmgpkehab
open Go.RowKit
theorem run_bs23_0 (w : World) : (Instr.buildSlice 23 0 #[]).run Try.prog w = .ok (.slice (some ⟨w.heap.size, 0, none⟩) 0 0) (w.alloc (.cells #[] 32)) := by kernel_rfl
theorem own_empty (w : World) (t : TypeId) (sz : Nat) : (w.alloc (.cells #[] t)).ownsRow 0 t sz (.slice (some ⟨w.heap.size, 0, none⟩) 0 0) 0 [] :=
  ⟨by simp, .inr ⟨w.heap.size, 0, #[], rfl, Nat.zero_le _, World.alloc_heap_new w _, Nat.le_refl _, Nat.zero_le _, by simp, by simp⟩⟩
set_option maxRecDepth 100000 in
set_option maxHeartbeats 1000000 in
theorem clone_any (u : Value) (l : List Nat) (hl : l.length ≤ 16384) (w : World) (hu : Reads w 1 u l.length (encN .u32 l)) :
    Calls Try.prog 32 #[u] w fun e w' => ∃ v, e = .returned v ∧ w'.ownsRow w.heap.size 32 1 v l.length (encN .u32 l) ∧ Below w.heap.size w w' := by
  obtain ⟨i0, hi, hz0, hz1, hz2⟩ := info_parts info32
  have hb := run_bs23_0
  have q23 : ∀ (w : World) (a : Option Addr) (n c n' c' : Nat), (binOp .eql 23 (.slice a n c) (.slice none n' c')).run Try.prog w = .ok (.bool a.isNone) w := fun w a n c n' c' => Lib.run_eql_slice_nil w _ _ a n c n' c' Try.underlying23
  obtain ⟨a, cap, rfl, h1, h2, h3, hn, hp⟩ := hu
  cases a with
  | none =>
    obtain rfl := hn rfl
    have h0 : l.length = 0 := by omega
    obtain rfl : l = [] := List.eq_nil_of_length_eq_zero h0
    clear hp hn h1
    go_enter Try.func32, Try.ntmps32
    go_wp2
    exact bodyPost_ret (v := .slice none 0 0) (by simp [results, Try.results32, go_sem]) rfl ⟨_, rfl, World.ownsRow_nil _ _ _ _, Below.refl _ _⟩
  | some ad =>
    have Hu := Lib.hid (show Reads (w.alloc (.cells #[] 32)) 1 (.slice (some ad) l.length cap) l.length (encN .u32 l) from Reads.below ⟨some ad, cap, rfl, h1, h2, h3, hn, hp⟩ (Bel.new _ _))
    have Hone := Lib.hid (encN_one .u32 l)
    have Hoe := Lib.hid (own_empty w 32 1)
    clear hp hn h1
    go_enter Try.func32, Try.ntmps32
    go_wp2_with ((with_reducible refine wpList_append_reads (o := ⟨some 7, .call { callee := .builtin .append, args := #[.tmp 5, .tmp 6], argTypes := #[23, 23] }, _, _, _, none⟩) rfl _ _ 23 rfl 32 i0 (.int .u32 0) 1 4 Try.underlying23 hi hz0 hz1 hz2 ?_ ?_ _ 0 [] ?_ Hoe.out _ l.length (encN .u32 l) ?_ Hu.out Hone.out ?_ ?_ ?_); rfl; decide; rfl; rfl; (unfold maxLen; omega); omega; intro v1 w1 o1 g1)
    have hx : w1.ownsRow w.heap.size 32 1 v1 l.length (encN .u32 l) := by
      have := own_from o1 (B := w.heap.size) (fun g e => by
        rcases g1.2 g e with h' | h'
        · cases h'; exact Nat.le_refl _
        · simp at h'; omega)
      simpa using this
    have hbw : Below w.heap.size w w1 := (Bel.new w (.cells #[] 32)).grown g1.1 (by simp) (fun g e => by cases e; exact Nat.le_refl _)
    exact bodyPost_ret (v := v1) (by simp [results, Try.results32, go_sem]) rfl ⟨_, rfl, hx, hbw⟩
def tgtsAt (n : Nat) (ts : List (List Nat)) (i : Int) : List Nat := if 0 ≤ i ∧ i < n then ts.getD i.toNat [] else []
set_option maxRecDepth 100000 in
set_option maxHeartbeats 1000000 in
theorem targets_any {w : World} {B b : Nat} {vp vo vt : Value} {ps : List (Nat × Nat × Nat)} {ofs : List Nat} {us : List Value} {ts : List (List Nat)} (h : PAt w B b vp vo vt ps ofs us ts) (hpt : ts.length = ps.length)
    (hln : ∀ j, (ts.getD j []).length ≤ 16384) (i : Int) :
    Calls Try.prog 14 #[.pointer (some ⟨b, 0, none⟩), .int .i64 i] w fun e w' => ∃ v, e = .returned v ∧ w'.ownsRow w.heap.size 32 1 v (tgtsAt ps.length ts i).length (encN .u32 (tgtsAt ps.length ts i)) ∧ Below w.heap.size w w' := by
  have hp := proc_any h i
  have hz39 := zero39
  unfold procN procV at hp
  unfold tgtsAt
  by_cases hc : 0 ≤ i ∧ i < ps.length
  · rw [if_pos hc] at hp ⊢
    obtain ⟨k, rfl⟩ := Int.eq_ofNat_of_zero_le hc.1
    rw [Int.toNat_natCast] at hp ⊢
    have hk : k < ps.length := by omega
    have hul : us.length = ts.length := h.ul
    obtain ⟨q, cv, hvt, -, -⟩ := own_start h.ot (by omega)
    subst hvt
    obtain ⟨u, hu⟩ : ∃ u, us[k]? = some u := ⟨_, List.getElem?_eq_getElem (by omega)⟩
    have hqc : w.cell? ⟨q, k, none⟩ = some u := by rw [h.ot.cellAt k (by omega)]; exact hu
    have hou := h.ou k u _ hu (getD_at _ k [] (by omega))
    have hlk := hln k
    have hc2 := h.c2
    have hcl := fun (W : World) (hb : Below w.heap.size w W) => clone_any u (ts.getD k []) hlk W (Reads.own (own_below hou hb) Nat.one_pos)
    generalize ps.getD k (0, 0, 0) = pr at *
    generalize ts.getD k [] = l at *
    obtain ⟨p0, p1, p2⟩ := pr
    rw [hul, hpt] at hc2
    have Hp := Lib.hid hp
    have Hcl := Lib.hid hcl
    have hki : (k : Int) < (ps.length : Int) := by omega
    have hk0 : (0 : Int) ≤ (k : Int) := by omega
    have hbl := World.block_lt_of_cell? _ _ hc2
    have hql := World.block_lt_of_cell? _ _ hqc
    clear h hp hcl hou hu hul hln hc
    go_enter Try.func14, Try.ntmps14
    go_wp2_with fail
    refine Hp.out.mono ?_
    rintro e w1 ⟨rfl, hb1⟩
    have hc2 := (hb1.cell (p := ⟨b, 2, none⟩) hbl).trans hc2
    have hqc := (hb1.cell (p := ⟨q, k, none⟩) hql).trans hqc
    have hbl := World.block_lt_of_cell? _ _ hc2
    have hql := World.block_lt_of_cell? _ _ hqc
    have Hb1 := Lib.hid hb1
    clear hb1 Hp
    go_wp2_with fail
    refine (Hcl.out _ (Bel.al Hb1.out _)).mono ?_
    rintro e w2 ⟨v, rfl, ho, hb2⟩
    have HX := Lib.hid (show w2.ownsRow w.heap.size 32 1 v l.length (encN .u32 l) ∧ Below w.heap.size w w2 from ⟨own_from (own_base ho) (fun g e => by have := (ho.lt g e).1; have := (Bel.al Hb1.out (.cells #[.int .u32 p0, .int .u32 p1, .int .u32 p2, .int .i64 0] 39)).size; omega), Bel.tr (Bel.al Hb1.out _) hb2⟩)
    clear ho hb2 Hcl
    go_wp2
    exact bodyPost_ret (v := v) (by simp [results, Try.results14, go_sem]) rfl ⟨_, rfl, HX.out⟩
  · rw [if_neg hc] at hp ⊢
    have Hp := Lib.hid hp
    clear h hp hln hc
    go_enter Try.func14, Try.ntmps14
    go_wp2_with fail
    refine Hp.out.mono ?_
    rintro e w1 ⟨rfl, hb1⟩
    have Hb1 := Lib.hid hb1
    clear hb1 Hp
    go_wp2
    exact bodyPost_ret (v := .slice none 0 0) (by simp [results, Try.results14, go_sem]) rfl ⟨_, rfl, World.ownsRow_nil _ _ _ _, Bel.al Hb1.out _⟩
end Go.Proofs.Ytofkamnmgpkehab
