import Derived.Test.YtdigcbkjlppenaaReadRef
import Derived.Test.YtdigcbkjlppenaaFitted
namespace Go.Proofs.Ytdigcbkjlppenaa
open Go.RowKit
/-- The instructions of bytes with their places, from a place on; where it ended, and why. -/
def walkF (l : List Nat) : Nat → Nat → List (Nat × (Nat × Nat)) × Nat × Nat
  | 0, p => if p < l.length then ([], p, 73) else ([], 0, 0)
  | n + 1, p => if p < l.length then
      if (readAt l p).2.2 = 0 then ((p, (readAt l p).1) :: (walkF l n (p + (readAt l p).2.1)).1, (walkF l n (p + (readAt l p).2.1)).2) else ([], p, (readAt l p).2.2)
    else ([], 0, 0)
def walk (l : List Nat) : List (Nat × (Nat × Nat)) × Nat × Nat := walkF l 16384 0
theorem walkF_end (l : List Nat) (n p : Nat) (h : ¬ p < l.length) : walkF l n p = ([], 0, 0) := by
  cases n <;> simp [walkF, h]
theorem walkF_zero (l : List Nat) (p : Nat) (h : p < l.length) : walkF l 0 p = ([], p, 73) := by simp [walkF, h]
theorem walkF_bad (l : List Nat) (n p : Nat) (h : p < l.length) (he : (readAt l p).2.2 ≠ 0) : walkF l (n + 1) p = ([], p, (readAt l p).2.2) := by simp [walkF, h, he]
theorem walkF_succ (l : List Nat) (n p : Nat) (h : p < l.length) (he : (readAt l p).2.2 = 0) :
    walkF l (n + 1) p = ((p, (readAt l p).1) :: (walkF l n (p + (readAt l p).2.1)).1, (walkF l n (p + (readAt l p).2.1)).2) := by simp [walkF, h, he]
/-- What has been gone through so far, and what is still to come. -/
def SoFar (l : List Nat) (k p : Nat) (done : List (Nat × (Nat × Nat))) : Prop := done.length = k ∧ k ≤ 16384 ∧ walk l = (done ++ (walkF l (16384 - k) p).1, (walkF l (16384 - k) p).2)
theorem soFar_nil (l : List Nat) : SoFar l 0 0 [] := ⟨rfl, by omega, rfl⟩
theorem soFar_succ {l : List Nat} {k p : Nat} {done : List (Nat × (Nat × Nat))} (h : SoFar l k p done) (hk : k < 16384) (hp : p < l.length) (he : (readAt l p).2.2 = 0) :
    SoFar l (k + 1) (p + (readAt l p).2.1) (done ++ [(p, (readAt l p).1)]) := by
  obtain ⟨h1, h2, h3⟩ := h
  refine ⟨by simp [h1], by omega, ?_⟩
  rw [h3, show 16384 - k = 16384 - (k + 1) + 1 from by omega, walkF_succ l _ p hp he]
  simp
theorem soFar_end {l : List Nat} {k p : Nat} {done : List (Nat × (Nat × Nat))} (h : SoFar l k p done) (hp : ¬ p < l.length) : walk l = (done, 0, 0) := by
  rw [h.2.2, walkF_end l _ p hp]; simp
theorem soFar_many {l : List Nat} {p : Nat} {done : List (Nat × (Nat × Nat))} (h : SoFar l 16384 p done) (hp : p < l.length) : walk l = (done, p, 73) := by
  rw [h.2.2, show 16384 - 16384 = 0 from rfl, walkF_zero l p hp]; simp
theorem soFar_bad {l : List Nat} {k p : Nat} {done : List (Nat × (Nat × Nat))} (h : SoFar l k p done) (hk : k < 16384) (hp : p < l.length) (he : (readAt l p).2.2 ≠ 0) : walk l = (done, p, (readAt l p).2.2) := by
  rw [h.2.2, show 16384 - k = 16384 - (k + 1) + 1 from by omega, walkF_bad l _ p hp he]; simp
theorem readAt_size (l : List Nat) (p : Nat) (he : (readAt l p).2.2 = 0) (hp : p < l.length) : 1 ≤ (readAt l p).2.1 ∧ p + (readAt l p).2.1 ≤ l.length := by
  unfold readAt at *
  split at he
  · rename_i h1
    rw [if_pos h1]
    split at he
    · simp at he
    · rename_i h2
      rw [if_neg h2]
      split at he
      · simp at he
      · rename_i h3
        rw [if_neg h3]
        show 1 ≤ 1 + widthOf (l.getD p 0) ∧ p + (1 + widthOf (l.getD p 0)) ≤ l.length
        omega
  · simp at he
theorem readAt_lt (l : List Nat) (p : Nat) (h : ∀ j, l.getD j 0 < 256) : (readAt l p).1.1 < 256 ∧ (readAt l p).1.2 < 4294967296 := by
  have h1 := h p
  have h2 := leV_lt l p h (widthOf (l.getD p 0)) 0
  have h3 := width_le (l.getD p 0)
  have h4 : 256 ^ widthOf (l.getD p 0) ≤ 256 ^ 4 := Nat.pow_le_pow_right (by omega) h3
  unfold readAt
  split
  · split
    · exact ⟨by decide, by decide⟩
    · split
      · exact ⟨by decide, by decide⟩
      · exact ⟨h1, by show leV l p 0 (widthOf (l.getD p 0)) < 4294967296; omega⟩
  · exact ⟨by decide, by decide⟩
theorem own_disj {w : World} {e e' s s' n n' : Nat} {v u : Value} {xs ys : List Value} (h : w.ownsRow 0 e s v n xs) (h' : w.ownsRow 0 e' s' u n' ys) (he : e ≠ e') : ∀ g, v.ownBlock = some g → u.ownBlock ≠ some g := by
  intro g hv hu
  rcases h.2 with ⟨rfl, _⟩ | ⟨g1, c1, cur1, rfl, _, h1, _⟩
  · cases hv
  · rcases h'.2 with ⟨rfl, _⟩ | ⟨g2, c2, cur2, rfl, _, h2, _⟩
    · cases hu
    · simp only [Value.ownBlock, Option.some.injEq] at hv hu
      subst hv hu
      rw [h1] at h2
      simp at h2
      exact he h2.2
theorem Grew.side {w w1 w2 : World} {u x x' : Value} (h : Grew w w1 (.slice none 0 0) u) (hg : Grew w1 w2 x x') (hx : ∀ g, x.ownBlock = some g → w.heap.size ≤ g) : Grew w w2 (.slice none 0 0) u :=
  ⟨grownBy_trans h.1 hg.1 (fun k e => .inr (hx k e)), h.2⟩
theorem Grew.from {w w1 : World} {u : Value} (h : Grew w w1 (.slice none 0 0) u) : ∀ g, u.ownBlock = some g → w.heap.size ≤ g := fun g e => by
  rcases h.2 g e with h | h
  · cases h
  · exact h
theorem info3 : (Try.prog.info? 3).map (fun i => (i.zero, i.size, i.bytes)) = some (some (.int .i64 0), 1, 8) := by kernel_rfl
def places (d : List (Nat × (Nat × Nat))) : List Nat := d.map (·.1)
def instrs (d : List (Nat × (Nat × Nat))) : List (Nat × Nat) := d.map (·.2)
def WalkPost (l : List Nat) (w : World) (e : Ending) (w' : World) : Prop :=
  ∃ vp vc, e = .returned (.tuple #[vp, vc, .int .i64 (walk l).2.1, .int .i64 (walk l).2.2]) ∧ w'.ownsRow 0 3 1 vp (walk l).1.length (encN .i64 (places (walk l).1)) ∧ w'.ownsRow 0 36 2 vc (walk l).1.length (encI (instrs (walk l).1)) ∧
    Below w.heap.size w w' ∧ Grew w w' (.slice none 0 0) vp ∧ Grew w w' (.slice none 0 0) vc
set_option maxRecDepth 100000 in
set_option maxHeartbeats 2000000 in
theorem refwalk_any (v : Value) (l : List Nat) (hn : l.length ≤ 140737488355328) (w : World) (hv : Bytes w v l) : Calls Try.prog 25 #[v] w (WalkPost l w) := by
  have hlt := hv.lt
  have hone := fun p hp W hb => one_any v l p hp hn W (hv.below (w' := W) hb)
  obtain ⟨a, cap, rfl, hlc, hcm, hnil, hp⟩ := hv.opened
  obtain ⟨i0, hi, hz0, hz1, hz2⟩ := info_parts info3
  obtain ⟨j0, hj, hy0, hy1, hy2⟩ := info_parts info36
  have hb43 := run_buildSlice43
  have hz36 := zero36
  have Hlt := Lib.hid hlt
  have Hone := Lib.hid hone
  clear hlt hone hp hnil hv
  go_enter Try.func25, Try.ntmps25
  go_wp2_with fail
  go_loopw [6, 7, 8] (fun u x i wr => ∃ (k p : Nat) (d : List (Nat × (Nat × Nat))) (c : Nat) (a' : Option Addr), SoFar l k p d ∧ p ≤ l.length ∧ i = .int .i64 p ∧ x = .slice a' k c ∧ wr.ownsRow 0 3 1 u k (encN .i64 (places d)) ∧ wr.ownsRow 0 36 2 x k (encI (instrs d)) ∧
      Grew w wr (.slice none 0 0) u ∧ Grew w wr (.slice none 0 0) x) (fun _ _ i _ => l.length - (intOf i).toNat)
  case atStart => exact ⟨0, 0, [], 0, none, soFar_nil l, by omega, rfl, rfl, World.ownsRow_nil _ _ _ _, World.ownsRow_nil _ _ _ _, Grew.refl _ _, Grew.refl _ _⟩
  case round =>
    obtain ⟨k, p, d, c, a', hS, hpl, rfl, rfl, ou, ox, gu, gx⟩ := hrel
    have hk16 := hS.2.1
    have HS := Lib.hid hS
    clear hS
    by_cases hlt' : p < l.length
    · by_cases hk : k = 16384
      · subst hk
        have hw := soFar_many HS.out hlt'
        have Hw := Lib.hid hw
        have hkb : (((16384 : Nat) : Int) == 16384) = true := rfl
        have hlen : d.length = 16384 := HS.out.1
        have ho := Lib.hid ou
        have ho2 := Lib.hid ox
        clear hw ou ox
        go_wp2
        refine bodyPost_ret (v := .tuple #[u6, .slice a' 16384 c, .int .i64 p, .int .i64 73]) (by simp [results, Try.results25, go_sem]) rfl ?_
        refine ⟨u6, _, by rw [Hw.out]; rfl, by rw [Hw.out, hlen]; exact ho.out, by rw [Hw.out, hlen]; exact ho2.out, gu.bel, gu, gx⟩
      · have hk2 : k < 16384 := by omega
        have hkb : ((k : Int) == 16384) = false := by simp; omega
        have h1 := Hone.out p hlt' wr gu.bel
        unfold ReadPost at h1
        by_cases he : (readAt l p).2.2 = 0
        · have hS' := soFar_succ HS.out hk2 hlt' he
          have hsz := readAt_size l p he hlt'
          have hrl := readAt_lt l p Hlt.out
          rw [he] at h1
          generalize readAt l p = r at *
          obtain ⟨⟨o, x⟩, sz, er⟩ := r
          simp only [instrVal] at *
          have HS' := Lib.hid hS'
          clear hS' he
          go_wp2_with fail
          refine h1.mono ?_
          rintro e w1 ⟨rfl, hb1⟩
          clear h1
          have ou1 := fun cs => own_below ou (Bel.al hb1 (.cells cs 36))
          have ox1 := fun cs => own_below ox (Bel.al hb1 (.cells cs 36))
          have gu1 := fun cs => gu.then (Bel.al hb1 (.cells cs 36))
          have gx1 := fun cs => gx.then (Bel.al hb1 (.cells cs 36))
          have hu6 : ∀ q, u6.ownBlock = some q → q < wr.heap.size := fun q e => (ou.lt q e).2
          have hws := hb1.size
          have hq : ∀ (w2 : World) (v' : Value), Grew (w1.alloc (.cells #[.int .u8 o, .int .u32 x] 36)) w2 u6 v' → w2.cell? ⟨w1.heap.size, 0, none⟩ = some (.int .u8 o) ∧ w2.cell? ⟨w1.heap.size, 1, none⟩ = some (.int .u32 x) ∧
              w2.ownsRow 0 36 2 (.slice a' k c) k (encI (instrs d)) := fun w2 v' g2 => by
            have hne : ∀ j, some (⟨w1.heap.size, j, none⟩ : Addr).block ≠ u6.ownBlock := fun j e => by have := hu6 _ e.symm; simp at this; omega
            refine ⟨(g2.1.cell_far ⟨w1.heap.size, 0, none⟩ (by simp) (hne 0)).trans (by simp [go_sem]), (g2.1.cell_far ⟨w1.heap.size, 1, none⟩ (by simp) (hne 1)).trans (by simp [go_sem]), ?_⟩
            exact own_grew (ox1 _) g2 (own_disj (ox1 #[.int .u8 o, .int .u32 x]) (ou1 #[.int .u8 o, .int .u32 x]) (by decide))
          have Hq := Lib.hid hq
          have Ou1 := Lib.hid ou1
          have Gu1 := Lib.hid gu1
          have Gx1 := Lib.hid gx1
          have Gxf := Lib.hid gx.from
          have Guf := Lib.hid gu.from
          clear hq ou1 ox1 gu1 gx1 ou ox gu gx hu6
          go_wp2_with (first | ((with_reducible refine wpList_append1B (o := ⟨some 38, .call { callee := .builtin .append, args := #[.tmp 35, .tmp 37], argTypes := #[42, 42] }, _, _, _, none⟩) rfl _ _ 42 rfl 3 i0 (.int .i64 0) 1 8 Try.underlying42 hi hz0 hz1 hz2 ?_ ?_ _ _ _ (Ou1.out _) _ _ (w1.heap.size + 1) ?_ ?_ ?_ ?_ ?_ ?_ ?_ ?_); rfl; decide; rfl; rfl; exact World.size_alloc _ _; rfl; (simp [Value.oneCell']); (unfold maxLen; omega); omega; intro g2 c2 w2 o2 g2' hl2; obtain ⟨hq0, hq1, ox2⟩ := Hq.out _ _ g2') | ((with_reducible refine wpList_append1 (o := ⟨some 42, .call { callee := .builtin .append, args := #[.tmp 39, .tmp 41], argTypes := #[43, 43] }, _, _, _, none⟩) rfl _ _ 43 rfl 36 j0 (.agg #[.int .u8 0, .int .u32 0]) 2 8 Try.underlying43 hj hy0 hy1 hy2 ?_ ?_ _ _ _ ox2 _ _ ?_ ?_ ?_ ?_ ?_ ?_ ?_); rfl; decide; rfl; rfl; rfl; (simp [Value.oneCell']); (unfold maxLen; omega); omega; intro g3 c3 w3 o3 g3' hl3))
          have hun := own_grew o2 g3' (own_disj o2 ox2 (by decide))
          have gu3 : Grew w w3 (.slice none 0 0) (.slice (some ⟨g2, 0, none⟩) (k + 1) c2) := (((Gu1.out _).trans g2').side g3' Gxf.out)
          have gx3 : Grew w w3 (.slice none 0 0) (.slice (some ⟨g3, 0, none⟩) (k + 1) c3) := (((Gx1.out _).side g2' Guf.out).trans g3')
          go_roundw
          case rel => exact ⟨k + 1, p + sz, d ++ [(p, (o, x))], c3, _, HS'.out, hsz.2, by go_num, rfl, by
            rw [places, List.map_append, encN_append]
            have e1 : encN .i64 (List.map (·.1) [(p, (o, x))]) = #[Value.int IntKind.i64 p].toList := by simp [encN]
            rw [e1]; exact hun, by
            rw [instrs, List.map_append, encI_append]
            have e1 : encI (List.map (·.2) [(p, (o, x))]) = #[Value.int IntKind.u8 o, Value.int IntKind.u32 x].toList := by simp [encI]
            rw [e1]; exact o3, gu3, gx3⟩
          case measure => simp [intOf]; omega
        · have hw := soFar_bad HS.out hk2 hlt' he
          have hne : (((readAt l p).2.2 : Int) != 0) = true := by simp; exact he
          have hlen : d.length = k := HS.out.1
          generalize readAt l p = r at *
          obtain ⟨⟨o, x⟩, sz, er⟩ := r
          simp only [instrVal] at *
          have Hw := Lib.hid hw
          have Ho := Lib.hid ou
          have Ho2 := Lib.hid ox
          have Hgu := Lib.hid gu
          have Hgx := Lib.hid gx
          clear hw he ou ox gu gx
          go_wp2_with fail
          refine h1.mono ?_
          rintro e w1 ⟨rfl, hb1⟩
          clear h1
          go_wp2
          refine bodyPost_ret (v := .tuple #[u6, .slice a' k c, .int .i64 p, .int .i64 er]) (by simp [results, Try.results25, go_sem]) rfl ?_
          refine ⟨u6, _, by rw [Hw.out], ?_, ?_, ?_, ?_, ?_⟩
          · rw [Hw.out, hlen]; exact own_below Ho.out (Bel.al hb1 _)
          · rw [Hw.out, hlen]; exact own_below Ho2.out (Bel.al hb1 _)
          · exact (Hgu.out.then (Bel.al hb1 _)).bel
          · exact Hgu.out.then (Bel.al hb1 _)
          · exact Hgx.out.then (Bel.al hb1 _)
    · have hw := soFar_end HS.out hlt'
      have Hw := Lib.hid hw
      have hpe : p = l.length := by omega
      have hlen : d.length = k := HS.out.1
      have ho := Lib.hid ou
      have ho2 := Lib.hid ox
      clear hw ou ox
      go_wp2
      refine bodyPost_ret (v := .tuple #[u6, .slice a' k c, .int .i64 0, .int .i64 0]) (by simp [results, Try.results25, go_sem]) rfl ?_
      refine ⟨u6, _, by rw [Hw.out]; rfl, by rw [Hw.out, hlen]; exact ho.out, by rw [Hw.out, hlen]; exact ho2.out, gu.bel, gu, gx⟩
end Go.Proofs.Ytdigcbkjlppenaa
