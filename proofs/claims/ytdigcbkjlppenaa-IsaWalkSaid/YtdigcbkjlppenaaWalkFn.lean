import Derived.Test.YtdigcbkjlppenaaRange2
import Derived.Test.YtdigcbkjlppenaaDecodeW
/- isa.Walk, OverBytes. -/
namespace Go.Proofs.Ytdigcbkjlppenaa
open Go.RowKit
def WfPost (bs : List Nat) (w : World) (e : Ending) (w' : World) : Prop :=
  ∃ bx u, e = .returned (.func (.func 58) #[] #[.pointer (some ⟨bx, 0, none⟩), .pointer (some ⟨bx + 1, 0, none⟩)]) ∧ w.heap.size ≤ bx ∧ bx + 1 < w'.heap.size ∧ w'.cell? ⟨bx, 0, none⟩ = some u ∧ w'.cell? ⟨bx + 1, 0, none⟩ = some (.func (.func 51) #[] #[]) ∧
    w'.ownsRow 0 5 1 u bs.length (encN .u8 bs) ∧ (∀ g, u.ownBlock = some g → w.heap.size ≤ g) ∧ Below w.heap.size w w'
set_option maxRecDepth 100000 in
set_option maxHeartbeats 2000000 in
theorem walkfn_any (v : Value) (bs : List Nat) (hl : bs.length ≤ 140737488351232) (w : World) (hv : Bytes w v bs) : Calls Try.prog 27 #[v] w (WfPost bs w) := by
  obtain ⟨i0, hi, hz0, hz1, hz2⟩ := info_parts info5
  have hr := hv.1
  obtain ⟨a, cap, rfl, hlc, hcm, -, -⟩ := hv.opened
  have h1c := encN_one .u8 bs
  have Hr := Lib.hid hr
  have H1 := Lib.hid h1c
  clear hv hr h1c
  have hnil := World.ownsRow_nil w 0 5 1
  go_enter Try.func27, Try.ntmps27
  go_wp2_with ((with_reducible refine wpList_append_reads (o := ⟨some 5, .call { callee := .builtin .append, args := #[.const (.slice none 0 0), .tmp 4], argTypes := #[41, 41] }, _, _, _, none⟩) rfl _ _ 41 rfl 5 i0 (.int .u8 0) 1 1 Try.underlying41 hi hz0 hz1 hz2 ?_ ?_ _ 0 [] ?_ hnil _ bs.length (encN .u8 bs) ?_ Hr.out H1.out ?_ ?_ ?_); rfl; decide; rfl; rfl; (unfold maxLen; omega); omega; intro v1 w1 o1 g1)
  rw [Nat.zero_add, List.nil_append] at o1
  obtain ⟨a1, c1, hu1⟩ := own_shape o1
  subst hu1
  have hfr := fresh_ge g1 (Nat.le_refl _)
  have hb1 := g1.bel
  have O1 := Lib.hid o1
  clear o1 g1 hnil
  go_wp2_with fail
  refine (through_any _ _ _ _ _ _).mono ?_
  rintro e w2 ⟨rfl, rfl⟩
  have hO := own_below O1.out (Bel.al (Bel.new w1 (.cells #[.slice a1 bs.length c1] 41)) (.cells #[.func (.func 51) #[] #[]] 82))
  have hB := Bel.al (Bel.al hb1 (.cells #[.slice a1 bs.length c1] 41)) (.cells #[.func (.func 51) #[] #[]] 82)
  have HO := Lib.hid hO
  have HB := Lib.hid hB
  clear hO hB
  go_wp2
  go_ret
  exact ⟨w1.heap.size, _, rfl, hb1.size, by simp, by simp [go_sem], by simp [go_sem], HO.out, hfr, HB.out⟩
set_option maxRecDepth 100000 in
set_option maxHeartbeats 2000000 in
theorem overBytes_any (g n cap : Nat) (xs : List Value) (hn : n ≤ 140737488355328) (w : World) (ho : w.ownsRow 0 5 1 (.slice (some ⟨g, 0, none⟩) n cap) n xs) :
    Calls Try.prog 29 #[.slice (some ⟨g, 0, none⟩) n cap] w fun e w' => (∃ v, e = .returned v) ∧ w.grownBy w' (some g) := by
  have Ho := Lib.hid ho
  clear ho
  go_enter Try.func29, Try.ntmps29
  go_wp2_with fail
  go_loopw [2] (fun i wr => ∃ (k : Nat) (ys : List Value), k ≤ n ∧ i = .int .i64 k ∧ wr.ownsRow 0 5 1 (.slice (some ⟨g, 0, none⟩) n cap) n ys ∧ w.grownBy wr (some g)) (fun i _ => n - (intOf i).toNat)
  case atStart => exact ⟨0, xs, by omega, rfl, Ho.out, grownBy_refl _ _⟩
  case round =>
    obtain ⟨k, ys, hk, rfl, ho, hg⟩ := hrel
    by_cases hlt : k < n
    · have hc1 : wr.cell? ⟨g, k, none⟩ = some (ys.getD k undef) := by
        rw [ho.cellAt k (by omega), List.getD_eq_getElem?_getD, List.getElem?_eq_getElem (by rw [ho.1]; omega)]; rfl
      have hc2 : wr.frozen? ⟨g, k, none⟩ = false := ho.frozenAt k
      have g0 : (0 : Int) ≤ (k : Int) := by omega
      have g1 : (k : Int) < (n : Int) := by omega
      have hm49 := markBytes_any (-1) k wr
      have hst := ho.stored k (.int .u8 (mkB (-1) k))
      generalize mkB (-1) k = x at hm49 hst
      have Hm49 := Lib.hid hm49
      have Hst := Lib.hid hst
      clear hm49 hst ho
      go_wp2_with (go_at_call 49; refine Hm49.out.mono ?_; rintro e w' ⟨rfl, rfl⟩)
      go_roundw
      case rel => exact ⟨k + 1, _, by omega, by go_num, Hst.out.1, grownBy_trans hg Hst.out.2 (fun q e => .inl e)⟩
      case measure => simp [intOf]; omega
    · go_wp2
      go_end0
      exact ⟨⟨_, rfl⟩, hg⟩
end Go.Proofs.Ytdigcbkjlppenaa
