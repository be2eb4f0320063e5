import Derived.Test.YtdigcbkjlppenaaApartW
import Derived.Test.YtdigcbkjlppenaaKept
import Derived.Test.YtdigcbkjlppenaaJoinsW
/- IsaEncode. -/
namespace Go.Proofs.Ytdigcbkjlppenaa
open Go.RowKit
theorem encRes_lt {l : List (Nat × Nat)} (hl : ∀ i ∈ l, i.1 < 256 ∧ i.2 < 4294967296) : ∀ b ∈ (encRes l).1, b < 256 := by
  unfold encRes
  split
  · intro b h; cases h
  · split
    · intro b h; cases h
    · exact encode_lt hl
theorem encRes_len (l : List (Nat × Nat)) : (encRes l).1.length ≤ 81920 := by
  unfold encRes
  split
  · simp
  · split
    · simp
    · have := encode_len l; show (encode l).length ≤ _; omega
/-- A slice's head. -/
theorem Instrs.head {w : World} {g n cap : Nat} {l m : List (Nat × Nat)} (h : Instrs w (.slice (some ⟨g, 0, none⟩) n cap) (l ++ m)) : Instrs w (.slice (some ⟨g, 0, none⟩) l.length cap) l := by
  obtain ⟨⟨a, c, hv, hl, hn, hm, ha, hp⟩, hlt⟩ := h
  simp only [Value.slice.injEq] at hv
  obtain ⟨rfl, -, rfl⟩ := hv
  rw [List.length_append] at hn
  refine ⟨⟨_, cap, rfl, encI_length l, by omega, hm, (fun h => by cases h), fun h0 => ?_⟩, fun i hi => hlt i (List.mem_append_left _ hi)⟩
  obtain ⟨b, off, e, hb, hc⟩ := hp (by rw [List.length_append]; omega)
  refine ⟨b, off, e, hb, fun j hj => ?_⟩
  rw [hc j (by rw [encI_append, List.length_append]; omega), encI_append, List.getElem?_append_left hj]
def EndPost (l : List (Nat × Nat)) (w : World) (e : Ending) (w' : World) : Prop :=
  ∃ u, e = .returned (.tuple #[u, .bool true]) ∧ w'.ownsRow 0 5 1 u (encRes l).1.length (encN .u8 (encRes l).1) ∧ Grew w w' (.slice none 0 0) u
set_option maxRecDepth 100000 in
set_option maxHeartbeats 2000000 in
theorem encoded_any (g cap : Nat) (v : Value) (l : List (Nat × Nat)) (hl : l.length * 8 ≤ 140737488351232) (w : World) (hf : Instrs w (.slice (some ⟨g, 0, none⟩) (l.length + 64) cap) (l ++ marksC 0 0 64)) (hv : Instrs w v l) :
    Calls Try.prog 34 #[.slice (some ⟨g, 0, none⟩) (l.length + 64) cap, v] w (EndPost l w) := by
  have h1 := encode_any _ l w hf.head
  have h2 := fun W hb => refencode_any v l W (hv.below hb)
  have h4 := fun W hb => keptCode_true _ v l hl W (hf.below hb) (hv.below hb)
  have hlt := encRes_lt hv.2
  have hcap : l.length ≤ cap := by obtain ⟨⟨a, c, e, h1, h2, _⟩, _⟩ := hf; simp only [Value.slice.injEq] at e; rw [List.length_append] at h2; omega
  obtain ⟨a, c, rfl, hlc, hcm, -, -⟩ := hv.opened
  have hcl : (l.length : Int) ≤ (cap : Int) := by omega
  unfold EncPost at h1 h2
  unfold EndPost
  generalize encRes l = r at *
  obtain ⟨bs, p, er⟩ := r
  simp only at *
  have Hlt := Lib.hid hlt
  have H2 := Lib.hid h2
  have H4 := Lib.hid h4
  clear h2 h4 hlt hf hv
  go_enter Try.func34, Try.ntmps34
  go_wp2_with fail
  refine h1.mono ?_
  rintro e w1 ⟨u1, rfl, o1, g1, -⟩
  have O1 := Lib.hid o1
  have G1 := Lib.hid g1
  clear o1 g1 h1
  go_wp2_with fail
  refine (H2.out _ G1.out.bel).mono ?_
  rintro e w2 ⟨u2, rfl, o2, g2, -⟩
  have hb12 := g2.bel
  have h3 := sameBytes_true u1 u2 bs w2 (Bytes.own (own_below O1.out hb12) Hlt.out) (Bytes.own o2 Hlt.out)
  have hb2 := Bel.tr G1.out.bel hb12
  obtain ⟨a1, c1, hu1⟩ := own_shape O1.out
  obtain ⟨a2, c2, hu2⟩ := own_shape o2
  subst hu1
  subst hu2
  have H3 := Lib.hid h3
  clear h3 o2 g2
  go_wp2_with fail
  refine H3.out.mono ?_
  rintro e w3 ⟨rfl, hb3⟩
  have hb03 := Bel.tr hb2 hb3
  have h5 := H4.out w3 hb03
  clear H3 H4
  go_wp2_with fail
  refine h5.mono ?_
  rintro e w4 ⟨rfl, hb4⟩
  clear h5
  have hall := Lib.hid (G1.out.then (Bel.tr hb12 (Bel.tr hb3 hb4)))
  have hown := Lib.hid (own_below (own_below (own_below O1.out hb12) hb3) hb4)
  go_wp2
  go_ret2
  exact ⟨_, rfl, hown.out, hall.out⟩

/-- Lists apart: what was made one behind the other. -/
theorem encEnd (l : List (Nat × Nat)) {w' : World} {u : Value} (h : w'.ownsRow 0 5 1 u (encRes l).1.length (encN .u8 (encRes l).1)) : lenV u ≤ 81920 := by
  rw [own_lenV h]; exact encRes_len l
/-- The state at the beginning of the first loop, of lists that lie in a row that has just been made. -/
theorem Ph1.new {w : World} {B e sz lb : Nat} {vs : List Value} {mk : Nat → Nat → List Value} (hl : lb < w.heap.size) (hls : ∀ (j : Nat) (v : Value), vs[j]? = some v → w.cell? ⟨lb, j, none⟩ = some v)
    (hr : ∀ (j : Nat) (v : Value), vs[j]? = some v → ∃ n xs, w.ownsRow B e sz v n xs) : Ph1 w w B e sz lb vs mk 0 0 :=
  ⟨Below.refl _ _, hl, hls, fun j v hj => by
    obtain ⟨n, xs, h⟩ := hr j v hj
    rw [← own_lenV h] at h
    exact ⟨xs, h, fun h => absurd h (Nat.not_lt_zero _), fun _ t ht => by omega⟩⟩
/-- Two values whose blocks are not the same. -/
def Aside (u v : Value) : Prop := ∀ g, u.ownBlock = some g → v.ownBlock ≠ some g
theorem Aside.symm {u v : Value} (h : Aside u v) : Aside v u := fun g h1 h2 => h g h2 h1
theorem Aside.of {u v : Value} (n : Nat) (h1 : ∀ g, u.ownBlock = some g → g < n) (h2 : ∀ g, v.ownBlock = some g → n ≤ g) : Aside u v := fun g e1 e2 => by
  have := h1 g e1; have := h2 g e2; omega
theorem Lists.three {B lb : Nat} {u1 u2 u3 : Value} (hB : B ≤ lb) (h1 : u1.ownBlock ≠ some lb) (h2 : u2.ownBlock ≠ some lb) (h3 : u3.ownBlock ≠ some lb) (h12 : Aside u1 u2) (h13 : Aside u1 u3) (h23 : Aside u2 u3) : Lists B lb [u1, u2, u3] where
  base := hB
  notl j v hj e := by
    match j with
    | 0 => cases hj; exact h1 e
    | 1 => cases hj; exact h2 e
    | 2 => cases hj; exact h3 e
    | j + 3 => cases hj
  apart i j u v g hi hj hu hv := by
    match i, j with
    | 0, 0 => rfl
    | 1, 1 => rfl
    | 2, 2 => rfl
    | 0, 1 => cases hi; cases hj; exact absurd hv (h12 g hu)
    | 0, 2 => cases hi; cases hj; exact absurd hv (h13 g hu)
    | 1, 0 => cases hi; cases hj; exact absurd hu (h12 g hv)
    | 1, 2 => cases hi; cases hj; exact absurd hv (h23 g hu)
    | 2, 0 => cases hi; cases hj; exact absurd hu (h13 g hv)
    | 2, 1 => cases hi; cases hj; exact absurd hu (h23 g hv)
    | i + 3, _ => cases hi
    | _, j + 3 => cases hj
theorem Lists.two {B lb : Nat} {u1 u2 : Value} (hB : B ≤ lb) (h1 : u1.ownBlock ≠ some lb) (h2 : u2.ownBlock ≠ some lb) (h12 : Aside u1 u2) : Lists B lb [u1, u2] where
  base := hB
  notl j v hj e := by
    match j with
    | 0 => cases hj; exact h1 e
    | 1 => cases hj; exact h2 e
    | j + 2 => cases hj
  apart i j u v g hi hj hu hv := by
    match i, j with
    | 0, 0 => rfl
    | 1, 1 => rfl
    | 0, 1 => cases hi; cases hj; exact absurd hv (h12 g hu)
    | 1, 0 => cases hi; cases hj; exact absurd hu (h12 g hv)
    | i + 2, _ => cases hi
    | _, j + 2 => cases hj
theorem run_buildSlice62_3 (a1 a2 a3 : Option Addr) (n1 n2 n3 c1 c2 c3 : Nat) (w : World) : (Instr.buildSlice 62 3 #[(0, .slice a1 n1 c1), (1, .slice a2 n2 c2), (2, .slice a3 n3 c3)]).run Try.prog w = .ok (.slice (some ⟨w.heap.size, 0, none⟩) 3 3) (w.alloc (.cells #[.slice a1 n1 c1, .slice a2 n2 c2, .slice a3 n3 c3] 41)) := by kernel_rfl
theorem run_buildSlice62_2 (a1 a2 : Option Addr) (n1 n2 c1 c2 : Nat) (w : World) : (Instr.buildSlice 62 2 #[(0, .slice a1 n1 c1), (1, .slice a2 n2 c2)]).run Try.prog w = .ok (.slice (some ⟨w.heap.size, 0, none⟩) 2 2) (w.alloc (.cells #[.slice a1 n1 c1, .slice a2 n2 c2] 41)) := by kernel_rfl
theorem cells_new (w : World) (cs : Array Value) (t : TypeId) (j : Nat) (v : Value) (h : cs.toList[j]? = some v) : (w.alloc (.cells cs t)).cell? ⟨w.heap.size, j, none⟩ = some v := by
  have := news_new w cs t j v h
  rwa [Addr.add_mid, Nat.zero_add] at this
/-- ApartBytes of three lists that have just been put side by side. -/
theorem apart3 {w : World} {B : Nat} {u1 u2 u3 : Value} {n1 n2 n3 : Nat} {x1 x2 x3 : List Value} (hB : B ≤ w.heap.size) (o1 : w.ownsRow B 5 1 u1 n1 x1) (o2 : w.ownsRow B 5 1 u2 n2 x2) (o3 : w.ownsRow B 5 1 u3 n3 x3)
    (h1 : n1 ≤ 70368744177664) (h2 : n2 ≤ 70368744177664) (h3 : n3 ≤ 70368744177664) (h12 : Aside u1 u2) (h13 : Aside u1 u3) (h23 : Aside u2 u3) :
    Calls Try.prog 35 #[.slice (some ⟨w.heap.size, 0, none⟩) 3 3] (w.alloc (.cells #[u1, u2, u3] 41)) fun e w' => e = .returned (.bool true) ∧ Below B (w.alloc (.cells #[u1, u2, u3] 41)) w' := by
  have hL : Lists B w.heap.size [u1, u2, u3] := Lists.three hB (fun e => absurd (o1.lt _ e).2 (Nat.lt_irrefl _)) (fun e => absurd (o2.lt _ e).2 (Nat.lt_irrefl _)) (fun e => absurd (o3.lt _ e).2 (Nat.lt_irrefl _)) h12 h13 h23
  refine apartBytes_true w.heap.size 3 B [u1, u2, u3] _ (Nat.le_refl _) (by decide) (by simp) hL ?_ (Ph1.new (by simp) (fun j v hj => cells_new _ _ _ _ _ hj) ?_)
  · intro j v hj
    match j with
    | 0 => cases hj; rw [own_lenV o1]; exact h1
    | 1 => cases hj; rw [own_lenV o2]; exact h2
    | 2 => cases hj; rw [own_lenV o3]; exact h3
    | j + 3 => cases hj
  · intro j v hj
    match j with
    | 0 => cases hj; exact ⟨_, _, o1.alloc _⟩
    | 1 => cases hj; exact ⟨_, _, o2.alloc _⟩
    | 2 => cases hj; exact ⟨_, _, o3.alloc _⟩
    | j + 3 => cases hj
theorem apart2 {w : World} {B : Nat} {u1 u2 : Value} {n1 n2 : Nat} {x1 x2 : List Value} (hB : B ≤ w.heap.size) (o1 : w.ownsRow B 5 1 u1 n1 x1) (o2 : w.ownsRow B 5 1 u2 n2 x2)
    (h1 : n1 ≤ 70368744177664) (h2 : n2 ≤ 70368744177664) (h12 : Aside u1 u2) :
    Calls Try.prog 35 #[.slice (some ⟨w.heap.size, 0, none⟩) 2 2] (w.alloc (.cells #[u1, u2] 41)) fun e w' => e = .returned (.bool true) ∧ Below B (w.alloc (.cells #[u1, u2] 41)) w' := by
  have hL : Lists B w.heap.size [u1, u2] := Lists.two hB (fun e => absurd (o1.lt _ e).2 (Nat.lt_irrefl _)) (fun e => absurd (o2.lt _ e).2 (Nat.lt_irrefl _)) h12
  refine apartBytes_true w.heap.size 2 B [u1, u2] _ (Nat.le_refl _) (by decide) (by simp) hL ?_ (Ph1.new (by simp) (fun j v hj => cells_new _ _ _ _ _ hj) ?_)
  · intro j v hj
    match j with
    | 0 => cases hj; rw [own_lenV o1]; exact h1
    | 1 => cases hj; rw [own_lenV o2]; exact h2
    | j + 2 => cases hj
  · intro j v hj
    match j with
    | 0 => cases hj; exact ⟨_, _, o1.alloc _⟩
    | 1 => cases hj; exact ⟨_, _, o2.alloc _⟩
    | j + 2 => cases hj
end Go.Proofs.Ytdigcbkjlppenaa
