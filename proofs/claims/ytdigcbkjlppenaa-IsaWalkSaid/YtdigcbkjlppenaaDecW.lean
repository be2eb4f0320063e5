import Derived.Test.YtdigcbkjlppenaaApartC
import Derived.Test.YtdigcbkjlppenaaEncodeW
import Derived.Test.YtdigcbkjlppenaaOneWayW
/- IsaDecode. -/
namespace Go.Proofs.Ytdigcbkjlppenaa
open Go.RowKit
theorem decRes_lt {l : List Nat} (hl : ∀ i ∈ l, i < 256) : ∀ b ∈ (decRes l).1, b.1 < 256 ∧ b.2 < 4294967296 := by
  by_cases he : (decRes l).2.2 = 0
  · obtain ⟨c, _, hc, _, h⟩ := decRes_inv (l := l) (fun j => by
      rw [List.getD_eq_getElem?_getD]
      cases hj : l[j]? with
      | none => decide
      | some x => exact hl x (List.mem_of_getElem? hj)) he
    rw [h]; exact valid_lt hc
  · rw [(decRes_err he).1]; intro b h; cases h
theorem decRes_len (l : List Nat) : (decRes l).1.length ≤ 16384 := by
  unfold decRes
  split
  · have := walk_len l
    simpa [instrs] using this
  · simp
theorem marksB_lt (k : Int) (n m : Nat) : ∀ i ∈ marksB k n m, i < 256 := by
  intro i hi
  obtain ⟨j, _, rfl⟩ := List.mem_map.1 hi
  exact mkB_lt _ _
/-- A slice's head. -/
theorem Bytes.head {w : World} {g n cap : Nat} {l m : List Nat} (h : Bytes w (.slice (some ⟨g, 0, none⟩) n cap) (l ++ m)) : Bytes w (.slice (some ⟨g, 0, none⟩) l.length cap) l := by
  obtain ⟨⟨a, c, hv, hl, hn, hm, ha, hp⟩, hlt⟩ := h
  simp only [Value.slice.injEq] at hv
  obtain ⟨rfl, -, rfl⟩ := hv
  rw [List.length_append] at hn
  refine ⟨⟨_, cap, rfl, by rw [encN_length]; omega, by omega, hm, (fun h => by cases h), fun h0 => ?_⟩, fun i hi => hlt i (List.mem_append_left _ hi)⟩
  obtain ⟨b, off, e, hb, hc⟩ := hp (by rw [List.length_append]; omega)
  refine ⟨b, off, e, hb, fun j hj => ?_⟩
  rw [hc j (by rw [encN_append, List.length_append]; omega), encN_append, List.getElem?_append_left hj]
def DndPost (l : List Nat) (w : World) (e : Ending) (w' : World) : Prop :=
  ∃ u, e = .returned (.tuple #[u, .bool true]) ∧ w'.ownsRow 0 36 2 u (decRes l).1.length (encI (decRes l).1) ∧ Grew w w' (.slice none 0 0) u
set_option maxRecDepth 100000 in
set_option maxHeartbeats 2000000 in
theorem decoded_any (g cap : Nat) (v : Value) (l : List Nat) (hl : l.length ≤ 140737488351232) (w : World) (hf : Bytes w (.slice (some ⟨g, 0, none⟩) (l.length + 64) cap) (l ++ marksB 0 0 64)) (hv : Bytes w v l) :
    Calls Try.prog 31 #[.slice (some ⟨g, 0, none⟩) (l.length + 64) cap, v] w (DndPost l w) := by
  have h1 := decode_any _ l w hf.head
  have h2 := fun W hb => refdecode_any v l (by omega) W (hv.below hb)
  have h4 := fun W hb => keptBytes_true _ v l hl W (hf.below hb) (hv.below hb)
  have hlt := decRes_lt hv.2
  have hcap : l.length ≤ cap := by obtain ⟨⟨a, c, e, h1, h2, _⟩, _⟩ := hf; simp only [Value.slice.injEq] at e; rw [List.length_append] at h2; omega
  obtain ⟨a, c, rfl, hlc, hcm, -, -⟩ := hv.opened
  have hcl : (l.length : Int) ≤ (cap : Int) := by omega
  unfold DecPost at h1 h2
  unfold DndPost
  generalize decRes l = r at *
  obtain ⟨bs, p, er⟩ := r
  simp only at *
  have Hlt := Lib.hid hlt
  have H2 := Lib.hid h2
  have H4 := Lib.hid h4
  clear h2 h4 hlt hf hv
  go_enter Try.func31, Try.ntmps31
  go_wp2_with fail
  refine h1.mono ?_
  rintro e w1 ⟨u1, rfl, o1, -, g1⟩
  have O1 := Lib.hid o1
  have G1 := Lib.hid g1
  clear o1 g1 h1
  go_wp2_with fail
  refine (H2.out _ G1.out.bel).mono ?_
  rintro e w2 ⟨u2, rfl, o2, -, g2⟩
  have hb12 := g2.bel
  have h3 := sameCode_true u1 u2 bs w2 (Instrs.own (own_below O1.out hb12) Hlt.out) (Instrs.own o2 Hlt.out)
  have hb2 := Bel.tr G1.out.bel hb12
  obtain ⟨a1, c1, hu1⟩ := own_shape O1.out
  obtain ⟨a2, c2, hu2⟩ := own_shape o2
  subst hu1
  subst hu2
  have H3 := Lib.hid h3
  clear h3 o2 g2
  go_wp2_with fail
  refine H3.out.mono ?_
  rintro e w3 ⟨rfl, hb3⟩
  have hb03 := Bel.tr hb2 hb3
  have h5 := H4.out w3 hb03
  clear H3 H4
  go_wp2_with fail
  refine h5.mono ?_
  rintro e w4 ⟨rfl, hb4⟩
  clear h5
  have hall := Lib.hid (G1.out.then (Bel.tr hb12 (Bel.tr hb3 hb4)))
  have hown := Lib.hid (own_below (own_below (own_below O1.out hb12) hb3) hb4)
  go_wp2
  go_ret2
  exact ⟨_, rfl, hown.out, hall.out⟩

theorem run_buildSlice57_3 (a1 a2 a3 : Option Addr) (n1 n2 n3 c1 c2 c3 : Nat) (w : World) : (Instr.buildSlice 57 3 #[(0, .slice a1 n1 c1), (1, .slice a2 n2 c2), (2, .slice a3 n3 c3)]).run Try.prog w = .ok (.slice (some ⟨w.heap.size, 0, none⟩) 3 3) (w.alloc (.cells #[.slice a1 n1 c1, .slice a2 n2 c2, .slice a3 n3 c3] 43)) := by kernel_rfl
theorem run_buildSlice57_2 (a1 a2 : Option Addr) (n1 n2 c1 c2 : Nat) (w : World) : (Instr.buildSlice 57 2 #[(0, .slice a1 n1 c1), (1, .slice a2 n2 c2)]).run Try.prog w = .ok (.slice (some ⟨w.heap.size, 0, none⟩) 2 2) (w.alloc (.cells #[.slice a1 n1 c1, .slice a2 n2 c2] 43)) := by kernel_rfl
/-- ApartCode of three lists that have just been put side by side. -/
theorem apart3C {w : World} {B : Nat} {u1 u2 u3 : Value} {n1 n2 n3 : Nat} {x1 x2 x3 : List Value} (hB : B ≤ w.heap.size) (o1 : w.ownsRow B 36 2 u1 n1 x1) (o2 : w.ownsRow B 36 2 u2 n2 x2) (o3 : w.ownsRow B 36 2 u3 n3 x3)
    (h1 : n1 ≤ 8796093022208) (h2 : n2 ≤ 8796093022208) (h3 : n3 ≤ 8796093022208) (h12 : Aside u1 u2) (h13 : Aside u1 u3) (h23 : Aside u2 u3) :
    Calls Try.prog 32 #[.slice (some ⟨w.heap.size, 0, none⟩) 3 3] (w.alloc (.cells #[u1, u2, u3] 43)) fun e w' => e = .returned (.bool true) ∧ Below B (w.alloc (.cells #[u1, u2, u3] 43)) w' := by
  have hL : Lists B w.heap.size [u1, u2, u3] := Lists.three hB (fun e => absurd (o1.lt _ e).2 (Nat.lt_irrefl _)) (fun e => absurd (o2.lt _ e).2 (Nat.lt_irrefl _)) (fun e => absurd (o3.lt _ e).2 (Nat.lt_irrefl _)) h12 h13 h23
  refine apartCode_true w.heap.size 3 B [u1, u2, u3] _ (Nat.le_refl _) (by decide) (by simp) hL ?_ (Ph1.new (by simp) (fun j v hj => cells_new _ _ _ _ _ hj) ?_)
  · intro j v hj
    match j with
    | 0 => cases hj; rw [own_lenV o1]; exact h1
    | 1 => cases hj; rw [own_lenV o2]; exact h2
    | 2 => cases hj; rw [own_lenV o3]; exact h3
    | j + 3 => cases hj
  · intro j v hj
    match j with
    | 0 => cases hj; exact ⟨_, _, o1.alloc _⟩
    | 1 => cases hj; exact ⟨_, _, o2.alloc _⟩
    | 2 => cases hj; exact ⟨_, _, o3.alloc _⟩
    | j + 3 => cases hj
theorem apart2C {w : World} {B : Nat} {u1 u2 : Value} {n1 n2 : Nat} {x1 x2 : List Value} (hB : B ≤ w.heap.size) (o1 : w.ownsRow B 36 2 u1 n1 x1) (o2 : w.ownsRow B 36 2 u2 n2 x2)
    (h1 : n1 ≤ 8796093022208) (h2 : n2 ≤ 8796093022208) (h12 : Aside u1 u2) :
    Calls Try.prog 32 #[.slice (some ⟨w.heap.size, 0, none⟩) 2 2] (w.alloc (.cells #[u1, u2] 43)) fun e w' => e = .returned (.bool true) ∧ Below B (w.alloc (.cells #[u1, u2] 43)) w' := by
  have hL : Lists B w.heap.size [u1, u2] := Lists.two hB (fun e => absurd (o1.lt _ e).2 (Nat.lt_irrefl _)) (fun e => absurd (o2.lt _ e).2 (Nat.lt_irrefl _)) h12
  refine apartCode_true w.heap.size 2 B [u1, u2] _ (Nat.le_refl _) (by decide) (by simp) hL ?_ (Ph1.new (by simp) (fun j v hj => cells_new _ _ _ _ _ hj) ?_)
  · intro j v hj
    match j with
    | 0 => cases hj; rw [own_lenV o1]; exact h1
    | 1 => cases hj; rw [own_lenV o2]; exact h2
    | j + 2 => cases hj
  · intro j v hj
    match j with
    | 0 => cases hj; exact ⟨_, _, o1.alloc _⟩
    | 1 => cases hj; exact ⟨_, _, o2.alloc _⟩
    | j + 2 => cases hj
end Go.Proofs.Ytdigcbkjlppenaa
