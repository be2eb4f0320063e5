import Derived.Test.YtofkamnmgpkehabOwn
namespace Go.Proofs.Ytofkamnmgpkehab
open Go.RowKit

theorem info5 : (Try.prog.info? 5).map (fun i => (i.zero, i.size, i.bytes)) = some (some (.int .u8 0), 1, 1) := by kernel_rfl

set_option maxRecDepth 100000 in
set_option maxHeartbeats 400000 in
theorem width_any (w : World) : Calls Try.prog 59 #[] w fun e w' => e = .returned (.int .i64 4) ∧ w = w' := by
  have hx : bits BinOp.xor .u32 IntKind.u32.max 0 = 4294967295 := by kernel_rfl
  go_enter Try.func59, Try.ntmps59
  go_wp2
  refine wp_loop_rounds 5 ?_
  rw [rounds_succ]
  go_wp2
  rw [rounds_succ]
  go_wp2
  rw [rounds_succ]
  go_wp2
  rw [rounds_succ]
  go_wp2
  rw [rounds_succ]
  go_wp2
  go_ret
  exact ⟨rfl, rfl⟩

def le4 (x : Nat) : List Nat := [x % 256, x / 256 % 256, x / 65536 % 256, x / 16777216 % 256]
theorem le4_shift (x i : Nat) (hi : i < 4) : (le4 x).take (i + 1) = (le4 x).take i ++ [x / 2 ^ (8 * i) % 256] := by
  rcases i with _ | _ | _ | _ | i <;> first | rfl | omega | skip
  simp [le4]

theorem le4_length (x : Nat) : (le4 x).length = 4 := rfl
set_option maxRecDepth 100000 in
set_option maxHeartbeats 1000000 in
theorem lay_any (v : Value) (n : Nat) (xs : List Value) (x : Nat) (hx : x < 4294967296) (w : World) (hown : w.ownsRow 0 5 1 v n xs) (hn : n + 4 ≤ 140737488355328) :
    Calls Try.prog 56 #[v, .int .u32 x] w fun e w' => ∃ v', e = .returned v' ∧ w'.ownsRow 0 5 1 v' (n + 4) (xs ++ encN .u8 (le4 x)) ∧ Grew w w' v v' := by
  obtain ⟨i0, hi, hz0, hz1, hz2⟩ := info_parts info5
  go_enter Try.func56, Try.ntmps56
  go_wp2_with fail
  refine (width_any _).mono ?_
  rintro e w1 ⟨rfl, rfl⟩
  go_wp2_with fail
  go_loopw [0, 7] (fun u i wr => ∃ k : Nat, k ≤ 4 ∧ i = .int .i64 k ∧ wr.ownsRow 0 5 1 u (n + k) (xs ++ encN .u8 ((le4 x).take k)) ∧ Grew w wr v u) (fun _ i _ => 4 - (intOf i).toNat)
  case atStart => exact ⟨0, by omega, rfl, by simpa [encN] using hown, Grew.refl _ _⟩
  case round =>
    obtain ⟨k, hk, rfl, hr, hg⟩ := hrel
    by_cases hlt : k < 4
    · go_wp2_with ((with_reducible refine wpList_append1 (o := ⟨some 18, .call { callee := .builtin .append, args := #[.tmp 10, .tmp 17], argTypes := #[81, 81] }, _, _, _, none⟩) rfl _ _ 81 rfl 5 i0 (.int .u8 0) 1 1 Try.underlying81 hi hz0 hz1 hz2 ?_ ?_ _ _ _ hr _ _ ?_ ?_ ?_ ?_ ?_ ?_ ?_); rfl; decide; rfl; rfl; rfl; (simp [Value.oneCell']); (unfold maxLen; omega); omega; intro g c w1 hr1 hg1 hl1)
      go_roundw
      case rel => exact ⟨k + 1, by omega, by go_num, by
        rw [le4_shift x k hlt, encN_append, ← List.append_assoc]
        exact hr1, hg.trans hg1⟩
      case measure => simp [intOf]; omega
    · have : k = 4 := by omega
      subst this
      go_wp2
      go_ret
      exact ⟨_, rfl, hr, hg⟩

def le4s (l : List Nat) : List Nat := l.flatMap le4
theorem le4s_succ (l : List Nat) (k : Nat) (hk : k < l.length) : le4s (l.take (k + 1)) = le4s (l.take k) ++ le4 (l.getD k 0) := by
  rw [List.take_add_one, List.getElem?_eq_getElem hk, le4s, List.flatMap_append]
  simp [le4s, List.getElem?_eq_getElem hk]
theorem le4s_length (l : List Nat) : (le4s l).length = 4 * l.length := by
  induction l with
  | nil => rfl
  | cons x l ih =>
    have : le4s (x :: l) = le4 x ++ le4s l := rfl
    rw [this, List.length_append, le4_length, ih, List.length_cons]; omega
set_option maxRecDepth 100000 in
set_option maxHeartbeats 1000000 in
theorem put_any (a : Option Addr) (cap : Nat) (l : List Nat) (hl : ∀ i ∈ l, i < 4294967296) (w : World) (hr : Reads w 1 (.slice a l.length cap) l.length (encN .u32 l)) (hn : 4 * l.length + 4 ≤ 140737488355328) :
    Calls Try.prog 47 #[.slice a l.length cap] w fun e w' => ∃ v', e = .returned v' ∧ w'.ownsRow 0 5 1 v' (4 * l.length) (encN .u8 (le4s l)) ∧ Grew w w' (.slice none 0 0) v' := by
  obtain ⟨a', cap', hv, hlen, hnc, hm, hnil, hp⟩ := hr
  simp only [Value.slice.injEq, true_and] at hv
  obtain ⟨rfl, rfl⟩ := hv
  have hcell : ∀ k, k < l.length → ∃ b off, a = some ⟨b, off, none⟩ ∧ b < w.heap.size ∧ w.cell? ⟨b, off + k, none⟩ = some (.int .u32 (l.getD k 0 : Nat)) := by
    intro k hk
    obtain ⟨b, off, e, hlt, hc⟩ := hp (by omega)
    exact ⟨b, off, e, hlt, by rw [hc k (by rw [encN_length]; exact hk), encN_at _ l k hk]⟩
  have Hcell := Lib.hid hcell
  clear hp hnil hcell hlen
  go_enter Try.func47, Try.ntmps47
  go_wp2_with fail
  go_loopw [3, 8] (fun u i wr => ∃ k : Nat, k ≤ l.length ∧ i = .int .i64 k ∧ wr.ownsRow 0 5 1 u (4 * k) (encN .u8 (le4s (l.take k))) ∧ Grew w wr (.slice none 0 0) u) (fun _ i _ => l.length - (intOf i).toNat)
  case atStart => exact ⟨0, by omega, rfl, World.ownsRow_nil _ _ _ _, Grew.refl _ _⟩
  case round =>
    obtain ⟨k, hk, rfl, hr, hg⟩ := hrel
    by_cases hlt : k < l.length
    · obtain ⟨b, off, rfl, hbl, hc⟩ := Hcell.out k hlt
      have hc2 : wr.cell? ⟨b, off + k, none⟩ = some (.int .u32 (l.getD k 0 : Nat)) := ((Grew.bel hg).cell (p := ⟨b, off + k, none⟩) hbl).trans hc
      have hx : l.getD k 0 < 4294967296 := by
        rw [List.getD_eq_getElem?_getD, List.getElem?_eq_getElem hlt]; exact hl _ (List.getElem_mem hlt)
      have hs := le4s_succ l k hlt
      have Hs := Lib.hid hs
      clear hs hc
      generalize l.getD k 0 = x at hc2 hx Hs
      have h60 := lay_any u3 (4 * k) (encN .u8 (le4s (l.take k))) x hx wr hr (by omega)
      go_wp2_with fail
      refine h60.mono ?_
      rintro e w1 ⟨v', rfl, hr1, hg1⟩
      clear h60
      go_wp2
      go_roundw
      case rel => exact ⟨k + 1, by omega, by go_num, by rw [Hs.out, encN_append]; exact hr1, hg.trans hg1⟩
      case measure => simp [intOf]; omega
    · have : k = l.length := by omega
      subst this
      rw [List.take_length] at hr
      go_wp2
      go_ret
      exact ⟨_, rfl, hr, hg⟩
end Go.Proofs.Ytofkamnmgpkehab
