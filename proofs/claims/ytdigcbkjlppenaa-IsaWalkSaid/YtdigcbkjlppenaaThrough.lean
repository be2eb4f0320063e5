import Derived.Test.YtdigcbkjlppenaaWalkRef
import Derived.RangeFuncKeeps
import Derived.RangeFuncCalls
import Derived.RangeFuncLeaves
import Derived.Shelf.Abstract
import Derived.OwnWalkIn
import Derived.TacticsInMore
import Derived.LoopNIn
import Derived.LoopIn
/- The iterator of isa.Decode and isa.Walk: what it asks of its rounds, and where it ends. -/
namespace Go.Proofs.Ytdigcbkjlppenaa
open Go.RowKit
attribute [local go_sem] Oper.semAt_some
set_option maxRecDepth 100000 in
set_option maxHeartbeats 1000000 in
/-- isa.Decode's literal: it writes the place and the error. -/
theorem end57 (p e : Nat) (pl er : Nat) (p0 e0 : Value) (w : World) (hpl : w.cell? ⟨pl, 0, none⟩ = some p0) (hfp : w.frozen? ⟨pl, 0, none⟩ = false)
    (her : w.cell? ⟨er, 0, none⟩ = some e0) (hfe : w.frozen? ⟨er, 0, none⟩ = false) (hne : pl ≠ er) :
    Calls Try.prog 57 #[.int .i64 p, .int .i64 e, .pointer (some ⟨pl, 0, none⟩), .pointer (some ⟨er, 0, none⟩)] w fun r w' => (∃ v, r = .returned v) ∧ w' = (w.setCell ⟨pl, 0, none⟩ (.int .i64 p)).setCell ⟨er, 0, none⟩ (.int .i64 e) := by
  have hc2 : (w.setCell ⟨pl, 0, none⟩ (.int .i64 p)).cell? ⟨er, 0, none⟩ = some e0 := by rw [← her]; exact World.cell?_of_block (Below.heap_setCell _ _ _ _ (Ne.symm hne))
  have hf2 : (w.setCell ⟨pl, 0, none⟩ (.int .i64 p)).frozen? ⟨er, 0, none⟩ = false := by rw [← hfe]; exact World.frozen?_of_block (Below.heap_setCell _ _ _ _ (Ne.symm hne))
  go_enter Try.func57, Try.ntmps57
  go_wp2
  go_end0
  exact ⟨⟨_, rfl⟩, rfl⟩
set_option maxRecDepth 100000 in
theorem end51 (p e : Nat) (w : World) : Calls Try.prog 51 #[.int .i64 p, .int .i64 e] w fun r w' => (∃ v, r = .returned v) ∧ w' = w := by
  go_enter Try.func51, Try.ntmps51
  go_wp2
  go_end0
  exact ⟨⟨_, rfl⟩, rfl⟩
set_option maxRecDepth 100000 in
/-- isa.through boxes what it is handed. -/
theorem through_any (a : Option Addr) (n c : Nat) (k : Nat) (lb : Array Value) (w : World) : Calls Try.prog 50 #[.slice a n c, .func (.func k) #[] lb] w fun r w' =>
    r = .returned (.func (.func 58) #[] #[.pointer (some ⟨w.heap.size, 0, none⟩), .pointer (some ⟨w.heap.size + 1, 0, none⟩)]) ∧ w' = (w.alloc (.cells #[.slice a n c] 41)).alloc (.cells #[.func (.func k) #[] lb] 82) := by
  go_enter Try.func50, Try.ntmps50
  go_wp2
  go_ret
  exact ⟨rfl, rfl⟩
set_option maxRecDepth 100000 in
set_option maxHeartbeats 4000000 in
/-- The iterator: it goes through the instructions; each round is asked for the next; where no round leaves it, it tells the end. -/
theorem through1 (n : Nat) (hn : 3 ≤ n) (l bx ex fe : Nat) (lbe : Array Value) (v : Value) (bs : List Nat) (J : List (Nat × (Nat × Nat)) → World → Prop) (Jx : World → Prop) (Fin : World → World → Prop)
    (hstab : ∀ d A B, J d A → Below A.heap.size A B → J d B)
    (hJ : ∀ d W, J d W → W.cell? ⟨bx, 0, none⟩ = some v ∧ W.cell? ⟨ex, 0, none⟩ = some (.func (.func fe) #[] lbe) ∧ Bytes W v bs)
    (hent : ∀ args w, (callFunc fe args).run Try.prog w = .ok (.enter fe args) w)
    (hE : ∀ W, J (walk bs).1 W → CallsIn Fence.wide (n - 1) Try.prog fe (#[.int .i64 (walk bs).2.1, .int .i64 (walk bs).2.2] ++ lbe) W fun e W' => (∃ u, e = .returned u) ∧ Fin W W')
    (hY : ∀ pre x rest W, (walk bs).1 = pre ++ x :: rest → J pre W → YieldAt Fence.wide (n - 1) Try.prog l #[.int .i64 x.1, instrVal x.2] W fun e W' =>
      (e = .returned (.bool true) ∧ J (pre ++ [x]) W') ∨ (e = .returned (.bool false) ∧ Jx W'))
    (W : World) (h0 : J [] W) :
    CallsIn Fence.wide n Try.prog 58 #[.func (.yield l) #[] #[], .pointer (some ⟨bx, 0, none⟩), .pointer (some ⟨ex, 0, none⟩)] W fun e W' => (∃ u, e = .returned u) ∧ ((∃ W2, J (walk bs).1 W2 ∧ Fin W2 W') ∨ Jx W') := by
  have h1 : 1 ≤ n := by omega
  obtain ⟨a, cap, rfl, hlc, hcm, hnil, hp⟩ := (hJ _ _ h0).2.2.opened
  have hlm : bs.length ≤ 9223372036854775807 := by unfold maxLen at hcm; omega
  clear hp hnil
  refine callsIn_of_wp Try.func58 rfl trivial ?_ rfl
  simp only [Try.ntmps58, List.size_toArray, List.length_cons, List.length_nil, Nat.reduceAdd, Nat.reduceSub, Array.replicate_succ, Array.replicate_zero, List.push_toArray, List.append_toArray, List.nil_append, List.cons_append]
  gi_wp2
  gi_loopw [4, 5] (fun i m wr => ∃ (k p : Nat) (d : List (Nat × (Nat × Nat))), SoFar bs k p d ∧ p ≤ bs.length ∧ i = .int .i64 p ∧ m = .int .i64 k ∧ J d wr) (fun i _ _ => bs.length - (intOf i).toNat)
  case atStart => exact ⟨0, 0, [], soFar_nil bs, by omega, rfl, rfl, h0⟩
  case round =>
    obtain ⟨k, p, d, hS, hpl, rfl, rfl, hj⟩ := hrel
    obtain ⟨hb, he, hB⟩ := hJ _ _ hj
    have hk16 := hS.2.1
    by_cases hlt' : p < bs.length
    · by_cases hk : k = 16384
      · subst hk
        have hw := soFar_many hS hlt'
        have hee := hE wr (by rw [hw]; exact hj)
        rw [hw] at hee
        gi_wp2
        refine ⟨trivial, hee.mono ?_⟩
        rintro e w1 ⟨⟨u, rfl⟩, hf⟩
        gi_wp2
        refine bodyPost_ret (results_none rfl _ _ _) rfl ?_
        exact ⟨⟨_, rfl⟩, .inl ⟨wr, by rw [hw]; exact hj, hf⟩⟩
      · have hk2 : k < 16384 := by omega
        have hkb : ((k : Int) == 16384) = false := by simp; omega
        have h1 := (callsIn_wide (n := n - 1)).2 (read_any _ bs p hlt' wr hB)
        unfold ReadPost at h1
        by_cases hr0 : (readAt bs p).2.2 = 0
        · have hS' := soFar_succ hS hk2 hlt' hr0
          have hsz := readAt_size bs p hr0 hlt'
          have hY' := fun W hW => hY d (p, (readAt bs p).1) _ W (by rw [hS.2.2, show 16384 - k = 16384 - (k + 1) + 1 from by omega, walkF_succ bs _ p hlt' hr0]) hW
          rw [hr0] at h1
          generalize readAt bs p = r at *
          obtain ⟨⟨o, x⟩, sz, er⟩ := r
          simp only [instrVal] at *
          have HS' := Lib.hid hS'
          clear hS' hr0 hS
          gi_wp2
          refine ⟨trivial, h1.mono ?_⟩
          rintro e w1 ⟨rfl, hb1⟩
          clear h1
          obtain ⟨fn, tmps, assign, body, hy, hR⟩ := hY' (w1.alloc (.cells #[.int .u8 o, .int .u32 x] 36)) (hstab _ _ _ hj (Bel.al hb1 _))
          gi_wp2
          refine hR.mono ?_
          rintro e W3 (⟨rfl, hJ3⟩ | ⟨rfl, hJx3⟩)
          · gi_wp2
            go_roundw
            case rel => exact ⟨k + 1, p + sz, d ++ [(p, (o, x))], HS'.out, hsz.2, by go_num, rfl, hJ3⟩
            case measure => simp [intOf]; omega
          · gi_wp2
            refine bodyPost_ret (results_none rfl _ _ _) rfl ?_
            exact ⟨⟨_, rfl⟩, .inr hJx3⟩
        · have hw := soFar_bad hS hk2 hlt' hr0
          have hne : (((readAt bs p).2.2 : Int) != 0) = true := by simp; exact hr0
          have hEE := fun W h => hE W (by rw [hw]; exact h)
          rw [hw] at hEE
          generalize readAt bs p = r at *
          obtain ⟨⟨o, x⟩, sz, er⟩ := r
          simp only [instrVal] at *
          have Hw := Lib.hid hw
          clear hw hr0 hS
          gi_wp2
          refine ⟨trivial, h1.mono ?_⟩
          rintro e w1 ⟨rfl, hb1⟩
          clear h1
          have hj1 := hstab _ _ _ hj (Bel.al hb1 (.cells #[.int .u8 o, .int .u32 x] 36))
          obtain ⟨hb2, he2, hB2⟩ := hJ _ _ hj1
          have hee := hEE _ hj1
          gi_wp2
          refine ⟨trivial, hee.mono ?_⟩
          rintro e w2 ⟨⟨u, rfl⟩, hf⟩
          gi_wp2
          refine bodyPost_ret (results_none rfl _ _ _) rfl ?_
          exact ⟨⟨_, rfl⟩, .inl ⟨_, by rw [Hw.out]; exact hj1, hf⟩⟩
    · have hw := soFar_end hS hlt'
      have hpe : p = bs.length := by omega
      have hee := hE wr (by rw [hw]; exact hj)
      rw [hw] at hee
      gi_wp2
      refine ⟨trivial, hee.mono ?_⟩
      rintro e w1 ⟨⟨u, rfl⟩, hf⟩
      gi_wp2
      go_end0
      exact ⟨⟨_, rfl⟩, .inl ⟨wr, by rw [hw]; exact hj, hf⟩⟩
end Go.Proofs.Ytdigcbkjlppenaa
