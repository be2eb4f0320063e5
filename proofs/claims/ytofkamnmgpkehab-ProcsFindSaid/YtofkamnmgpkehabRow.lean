/- Slices: what a walk is told of a slice that it reads; rows that the call owns. Over any program. -/
import Derived.Test.YtofkamnmgpkehabBase
namespace Go.Proofs.Ytofkamnmgpkehab
open Go.RowKit

/-- v is a slice of n elements of sz cells each; its cells are cs. -/
def Reads (w : World) (sz : Nat) (v : Value) (n : Nat) (cs : List Value) : Prop :=
  ∃ (a : Option Addr) (cap : Nat), v = .slice a n cap ∧ cs.length = n * sz ∧ n ≤ cap ∧ cap ≤ maxLen ∧ (a = none → cap = 0) ∧
    (0 < n → ∃ b off, a = some ⟨b, off, none⟩ ∧ b < w.heap.size ∧ ∀ j, j < cs.length → w.cell? ⟨b, off + j, none⟩ = cs[j]?)

theorem Reads.below {w w' : World} {sz n : Nat} {v : Value} {cs : List Value} (h : Reads w sz v n cs) (hb : Below w.heap.size w w') : Reads w' sz v n cs := by
  obtain ⟨a, cap, hv, hl, hn, hm, ha, hp⟩ := h
  refine ⟨a, cap, hv, hl, hn, hm, ha, fun h0 => ?_⟩
  obtain ⟨b, off, e, hlt, hc⟩ := hp h0
  exact ⟨b, off, e, Nat.lt_of_lt_of_le hlt hb.size, fun j hj => (hb.cell (p := ⟨b, off + j, none⟩) hlt).trans (hc j hj)⟩

theorem Reads.nil (w : World) (sz : Nat) : Reads w sz (.slice none 0 0) 0 [] :=
  ⟨none, 0, rfl, by simp, Nat.le_refl _, Nat.zero_le _, fun _ => rfl, fun h => absurd h (Nat.lt_irrefl _)⟩

/-- What is owned may be read. -/
theorem Reads.own {w : World} {base e sz n : Nat} {v : Value} {cs : List Value} (h : w.ownsRow base e sz v n cs) (_hsz : 0 < sz) : Reads w sz v n cs := by
  obtain ⟨hl, h⟩ := h
  rcases h with ⟨rfl, rfl⟩ | ⟨g, cap, cur, rfl, hb, hg, hn, hm, hcs, ht⟩
  · exact ⟨none, 0, rfl, hl, Nat.le_refl _, Nat.zero_le _, fun _ => rfl, fun h => absurd h (Nat.lt_irrefl _)⟩
  · refine ⟨_, cap, rfl, hl, hn, hm, (fun h => by cases h), fun _ => ⟨g, 0, rfl, (Array.getElem?_eq_some_iff.1 hg).1, fun j hj => ?_⟩⟩
    rw [Nat.zero_add, cell_of_row w g j cur e (0, 0) hg, ← ht, List.getElem?_take, if_pos (by omega)]
    simp

/-- Instructions as cells. -/
def encI : List (Nat × Nat) → List Value
  | [] => []
  | i :: l => .int .u8 i.1 :: .int .u32 i.2 :: encI l
theorem encI_length (l : List (Nat × Nat)) : (encI l).length = l.length * 2 := by
  induction l with
  | nil => rfl
  | cons i l ih => simp [encI, ih]; omega
theorem encI_op (l : List (Nat × Nat)) : ∀ k, k < l.length → (encI l)[k * 2]? = some (.int .u8 (l.getD k (0, 0)).1) := by
  induction l with
  | nil => intro k h; simp at h
  | cons i l ih =>
    intro k h
    cases k with
    | zero => rfl
    | succ k =>
      have := ih k (by simpa using h)
      rw [show (k + 1) * 2 = k * 2 + 1 + 1 from by omega]
      simpa [encI] using this
theorem encI_arg (l : List (Nat × Nat)) : ∀ k, k < l.length → (encI l)[k * 2 + 1]? = some (.int .u32 (l.getD k (0, 0)).2) := by
  induction l with
  | nil => intro k h; simp at h
  | cons i l ih =>
    intro k h
    cases k with
    | zero => rfl
    | succ k =>
      have := ih k (by simpa using h)
      rw [show (k + 1) * 2 + 1 = k * 2 + 1 + 1 + 1 from by omega]
      simpa [encI] using this
theorem encI_append (l m : List (Nat × Nat)) : encI (l ++ m) = encI l ++ encI m := by
  induction l with
  | nil => rfl
  | cons i l ih => simp [encI, ih]

/-- Numbers as cells. -/
def encN (k : IntKind) (l : List Nat) : List Value := l.map fun (x : Nat) => Value.int k (x : Int)
theorem encN_length (k : IntKind) (l : List Nat) : (encN k l).length = l.length := by simp [encN]
theorem encN_at (k : IntKind) (l : List Nat) (j : Nat) (h : j < l.length) : (encN k l)[j]? = some (.int k (l.getD j 0 : Nat)) := by
  simp [encN, List.getElem?_eq_getElem h]
theorem encN_append (k : IntKind) (l m : List Nat) : encN k (l ++ m) = encN k l ++ encN k m := by simp [encN]

/-- A slice of instructions, with each number in its range. -/
def Instrs (w : World) (v : Value) (l : List (Nat × Nat)) : Prop := Reads w 2 v l.length (encI l) ∧ ∀ i ∈ l, i.1 < 256 ∧ i.2 < 4294967296
def Bytes (w : World) (v : Value) (l : List Nat) : Prop := Reads w 1 v l.length (encN .u8 l) ∧ ∀ i ∈ l, i < 256
theorem Instrs.below {w w' : World} {v : Value} {l : List (Nat × Nat)} (h : Instrs w v l) (hb : Below w.heap.size w w') : Instrs w' v l := ⟨h.1.below hb, h.2⟩
theorem Bytes.below {w w' : World} {v : Value} {l : List Nat} (h : Bytes w v l) (hb : Below w.heap.size w w') : Bytes w' v l := ⟨h.1.below hb, h.2⟩
/-- Opened for a walk: the cells of each instruction. -/
theorem Instrs.opened {w : World} {v : Value} {l : List (Nat × Nat)} (h : Instrs w v l) : ∃ (a : Option Addr) (cap : Nat), v = .slice a l.length cap ∧ l.length ≤ cap ∧ cap ≤ maxLen ∧ (a = none → cap = 0) ∧
    (0 < l.length → ∃ b off, a = some ⟨b, off, none⟩ ∧ b < w.heap.size ∧ ∀ k, k < l.length → w.cell? ⟨b, off + k * 2, none⟩ = some (.int .u8 (l.getD k (0, 0)).1) ∧ w.cell? ⟨b, off + k * 2 + 1, none⟩ = some (.int .u32 (l.getD k (0, 0)).2)) := by
  obtain ⟨⟨a, cap, hv, hl, hn, hm, ha, hp⟩, _⟩ := h
  refine ⟨a, cap, hv, hn, hm, ha, fun h0 => ?_⟩
  obtain ⟨b, off, e, hlt, hc⟩ := hp h0
  refine ⟨b, off, e, hlt, fun k hk => ⟨?_, ?_⟩⟩
  · rw [hc _ (by rw [hl]; omega), encI_op l k hk]
  · rw [Nat.add_assoc, hc _ (by rw [hl]; omega), encI_arg l k hk]
theorem Bytes.opened {w : World} {v : Value} {l : List Nat} (h : Bytes w v l) : ∃ (a : Option Addr) (cap : Nat), v = .slice a l.length cap ∧ l.length ≤ cap ∧ cap ≤ maxLen ∧ (a = none → cap = 0) ∧
    (0 < l.length → ∃ b off, a = some ⟨b, off, none⟩ ∧ b < w.heap.size ∧ ∀ k, k < l.length → w.cell? ⟨b, off + k, none⟩ = some (.int .u8 (l.getD k 0 : Nat))) := by
  obtain ⟨⟨a, cap, hv, hl, hn, hm, ha, hp⟩, _⟩ := h
  refine ⟨a, cap, hv, hn, hm, ha, fun h0 => ?_⟩
  obtain ⟨b, off, e, hlt, hc⟩ := hp h0
  exact ⟨b, off, e, hlt, fun k hk => by rw [hc _ (by rw [encN_length]; omega), encN_at _ l k hk]⟩
theorem Instrs.lt {w : World} {v : Value} {l : List (Nat × Nat)} (h : Instrs w v l) (k : Nat) : (l.getD k (0, 0)).1 < 256 ∧ (l.getD k (0, 0)).2 < 4294967296 := by
  rw [List.getD_eq_getElem?_getD]
  cases hk : l[k]? with
  | none => exact ⟨by decide, by decide⟩
  | some i => exact h.2 i (List.mem_of_getElem? hk)
theorem Bytes.lt {w : World} {v : Value} {l : List Nat} (h : Bytes w v l) (k : Nat) : l.getD k 0 < 256 := by
  rw [List.getD_eq_getElem?_getD]
  cases hk : l[k]? with
  | none => decide
  | some i => exact h.2 i (List.mem_of_getElem? hk)
end Go.Proofs.Ytofkamnmgpkehab
