import Derived.Test.YtofkamnmgpkehabLittle
import Derived.Test.YtofkamnmgpkehabIsaCheckC
import Derived.Deep.RegionHeld3
namespace Go.Proofs.Ytofkamnmgpkehab
open Go.RowKit
/-- The bytes of an instruction, of code; what Encode answers. -/
def encOne (i : Nat × Nat) : List Nat := i.1 :: (le4 i.2).take (widthOf i.1)
def encode (l : List (Nat × Nat)) : List Nat := l.flatMap encOne
def errAt (l : List (Nat × Nat)) (k : Nat) : Nat := checkN (l.getD k (0, 0)).1 (l.getD k (0, 0)).2
def badAt (l : List (Nat × Nat)) : Option Nat := (List.range' 0 l.length).find? (fun k => errAt l k != 0)
def encRes (l : List (Nat × Nat)) : List Nat × Nat × Nat :=
  if 16384 < l.length then ([], 16384, 73) else match badAt l with | some k => ([], k, errAt l k) | none => (encode l, 0, 0)
theorem find_first' (p : Nat → Bool) : ∀ (n a k : Nat), a ≤ k → k < a + n → p k = true → (∀ j, a ≤ j → j < k → p j = false) → (List.range' a n).find? p = some k
  | 0, a, k, h1, h2, _, _ => by omega
  | n + 1, a, k, h1, h2, hp, hj => by
    rw [List.range'_succ, List.find?_cons]
    by_cases e : a = k
    · subst e; rw [hp]
    · rw [hj a (Nat.le_refl _) (by omega)]; exact find_first' p n (a + 1) k (by omega) (by omega) hp (fun j h => hj j (by omega))
theorem encRes_many {l : List (Nat × Nat)} (h : 16384 < l.length) : encRes l = ([], 16384, 73) := if_pos h
theorem encRes_bad {l : List (Nat × Nat)} (h : ¬ 16384 < l.length) {k : Nat} (hk : k < l.length) (he : errAt l k ≠ 0) (hj : ∀ j, j < k → errAt l j = 0) : encRes l = ([], k, errAt l k) := by
  have : badAt l = some k := find_first' _ _ 0 k (Nat.zero_le _) (by omega) (by simpa using he) (fun j _ h => by simp [hj j h])
  rw [encRes, if_neg h, this]
theorem encRes_ok {l : List (Nat × Nat)} (h : ¬ 16384 < l.length) (hj : ∀ j, j < l.length → errAt l j = 0) : encRes l = (encode l, 0, 0) := by
  have : badAt l = none := List.find?_eq_none.2 (fun x hx => by
    rw [List.mem_range'_1] at hx; simp [hj x (by omega)])
  rw [encRes, if_neg h, this]
theorem encode_succ (l : List (Nat × Nat)) (k : Nat) (hk : k < l.length) : encode (l.take (k + 1)) = encode (l.take k) ++ [(l.getD k (0, 0)).1] ++ (le4 (l.getD k (0, 0)).2).take (widthOf (l.getD k (0, 0)).1) := by
  rw [List.take_add_one, List.getElem?_eq_getElem hk, encode, List.flatMap_append, List.append_assoc]
  simp [encode, encOne, List.getElem?_eq_getElem hk]
theorem encode_len (l : List (Nat × Nat)) : (encode l).length ≤ 5 * l.length := by
  induction l with
  | nil => simp [encode]
  | cons i l ih =>
    have : encode (i :: l) = encOne i ++ encode l := rfl
    rw [this, List.length_append, List.length_cons]
    have : (encOne i).length ≤ 5 := by simp [encOne, le4_length]; omega
    omega
theorem encode_nil {l : List (Nat × Nat)} (h : 0 < l.length) : 0 < (encode l).length := by
  cases l with
  | nil => simp at h
  | cons i l => simp [encode, encOne]

/-- One number, laid down: what comes out of Put, at a slice of one element. -/
theorem put_one (b : Nat) (x : Nat) (hx : x < 4294967296) (w : World) (hc : w.cell? ⟨b, 0, none⟩ = some (.int .u32 x)) :
    Calls Try.prog 47 #[.slice (some ⟨b, 0, none⟩) 1 1] w fun e w' => ∃ g cap, e = .returned (.slice (some ⟨g, 0, none⟩) 4 cap) ∧ 4 ≤ cap ∧ cap ≤ maxLen ∧ w.heap.size ≤ g ∧ g < w'.heap.size ∧
      (∀ j, j < 4 → w'.cell? ⟨g, j, none⟩ = (encN .u8 (le4 x))[j]?) ∧ Below w.heap.size w w' := by
  refine (put_any (some ⟨b, 0, none⟩) 1 [x] (by simpa using hx) w ⟨some ⟨b, 0, none⟩, 1, rfl, rfl, Nat.le_refl _, by decide, (fun h => by cases h), fun _ => ⟨b, 0, rfl, World.block_lt_of_cell? w _ hc, fun j hj => ?_⟩⟩ (by simp)).mono ?_
  · have : j = 0 := by simp [encN] at hj; exact hj
    subst this
    exact hc
  · rintro e w' ⟨v', rfl, hown, hg⟩
    obtain ⟨g, cap, rfl, h1, h2, h3, h4⟩ := own_form hown (by simp)
    refine ⟨g, cap, rfl, h1, h2, ?_, h3, fun j hj => ?_, hg.bel⟩
    · rcases hg.2 g rfl with h | h
      · cases h
      · exact h
    · have := h4 j (by rw [encN_length, le4s_length]; simpa using hj)
      simpa [le4s] using this

theorem cell_newD (W : World) (v : Value) (t : TypeId) : ((W.alloc (.cells #[v] t)).drew).cell? ⟨W.heap.size, 0, none⟩ = some v := by simp [go_sem]
theorem news_take {w w' : World} {g wd n : Nat} {cs : List Value} (hc : ∀ j, j < n → w.cell? ⟨g, j, none⟩ = cs[j]?) (hg : g < w.heap.size) (hb : Below w.heap.size w w') (hw : wd ≤ n) :
    ∀ j u, (cs.take wd)[j]? = some u → w'.cell? ((⟨g, 0, none⟩ : Addr).add j) = some u := by
  intro j u h
  rw [List.getElem?_take] at h
  split at h
  · rename_i hj
    rw [Addr.add_mid, Nat.zero_add, hb.cell (p := ⟨g, j, none⟩) hg, hc j (by omega)]; exact h
  · cases h
theorem encN_one (k : IntKind) (l : List Nat) : ∀ u ∈ encN k l, u.oneCell' = true := by
  intro u h
  obtain ⟨x, _, rfl⟩ := List.mem_map.1 h
  rfl
def EncPost (l : List (Nat × Nat)) (w : World) (e : Ending) (w' : World) : Prop :=
  ∃ v, e = .returned (.tuple #[v, .int .i64 (encRes l).2.1, .int .i64 (encRes l).2.2]) ∧ w'.ownsRow 0 5 1 v (encRes l).1.length (encN .u8 (encRes l).1) ∧ Grew w w' (.slice none 0 0) v ∧ ((encRes l).1 = [] → v = .slice none 0 0)

set_option maxRecDepth 100000 in
set_option maxHeartbeats 2000000 in
theorem encode_any (v : Value) (l : List (Nat × Nat)) (w : World) (hv : Instrs w v l) : Calls Try.prog 33 #[v] w (EncPost l w) := by
  have hlt := hv.lt
  obtain ⟨a, cap, rfl, hlc, hcm, hnil, hp⟩ := hv.opened
  obtain ⟨i0, hi, hz0, hz1, hz2⟩ := info_parts info5
  have hlm : l.length ≤ 9223372036854775807 := by unfold maxLen at hcm; omega
  by_cases hmany : 16384 < l.length
  · have he := encRes_many hmany
    have hm1 : (16384 : Int) < (l.length : Int) := by omega
    have Hp := Lib.hid hp
    have Hn := Lib.hid hnil
    clear hp hnil
    go_enter Try.func33, Try.ntmps33
    go_wp2
    go_ret3
    refine ⟨.slice none 0 0, by rw [he]; rfl, by rw [he]; exact World.ownsRow_nil _ _ _ _, Grew.refl _ _, fun _ => rfl⟩
  · have Hp := Lib.hid hp
    have Hn := Lib.hid hnil
    have hm1 : ¬ (16384 : Int) < (l.length : Int) := by omega
    clear hp hnil
    go_enter Try.func33, Try.ntmps33
    go_wp2_with fail
    go_loopw [5, 14] (fun u i wr => ∃ k : Nat, k ≤ l.length ∧ i = .int .i64 k ∧ (∀ j, j < k → errAt l j = 0) ∧ wr.ownsRow 0 5 1 u (encode (l.take k)).length (encN .u8 (encode (l.take k))) ∧ Grew w wr (.slice none 0 0) u ∧ (k = 0 → u = .slice none 0 0)) (fun _ i _ => l.length - (intOf i).toNat)
    case atStart => exact ⟨0, by omega, rfl, fun j h => by omega, World.ownsRow_nil _ _ _ _, Grew.refl _ _, fun _ => rfl⟩
    case round =>
      obtain ⟨k, hk, rfl, hj, hr, hg, hu⟩ := hrel
      have Hj := Lib.hid hj
      have Hu := Lib.hid hu
      clear hj hu
      by_cases hlt' : k < l.length
      · obtain ⟨b, off, rfl, hbl, hc⟩ := Hp.out (by omega)
        obtain ⟨hc1, hc2⟩ := hc k hlt'
        have hb1 : wr.cell? ⟨b, off + k * 2, none⟩ = some (.int .u8 (l.getD k (0, 0)).1) := ((Grew.bel hg).cell (p := ⟨b, off + k * 2, none⟩) hbl).trans hc1
        have hb2 : wr.cell? ⟨b, off + k * 2 + 1, none⟩ = some (.int .u32 (l.getD k (0, 0)).2) := ((Grew.bel hg).cell (p := ⟨b, off + k * 2 + 1, none⟩) hbl).trans hc2
        obtain ⟨ho, ha⟩ := hlt k
        have hch := fun W => check_any (l.getD k (0, 0)).1 (l.getD k (0, 0)).2 ho W
        have hsz := fun W => size_any (l.getD k (0, 0)).1 (l.getD k (0, 0)).2 ho W
        have hen := encode_succ l k hlt'
        have her : errAt l k = checkN (l.getD k (0, 0)).1 (l.getD k (0, 0)).2 := rfl
        have hln := encode_len (l.take k)
        rw [List.length_take] at hln
        generalize l.getD k (0, 0) = ins at *
        obtain ⟨o, x⟩ := ins
        have Hen := Lib.hid hen
        have Her := Lib.hid her
        clear hen her hc hc1 hc2 hlt
        simp only at *
        go_wp2_with fail
        refine (hch _).mono ?_
        rintro e w1 ⟨rfl, hb⟩
        clear hch
        have hs1 := Bel.lt hb
        obtain ⟨hk1, hk2⟩ := bcell hb
        simp only [World.size_alloc] at hk1 hk2
        have hgb := Grew.tr' hg hb
        have hr1 := own_below hr (Bel.of hb)
        by_cases hce : checkN o x = 0
        · rw [hce] at Her ⊢
          go_wp2_with ((with_reducible refine wpList_append1 (o := ⟨some 29, .call { callee := .builtin .append, args := #[.tmp 25, .tmp 28], argTypes := #[81, 81] }, _, _, _, none⟩) rfl _ _ 81 rfl 5 i0 (.int .u8 0) 1 1 Try.underlying81 hi hz0 hz1 hz2 ?_ ?_ _ _ _ hr1 _ _ ?_ ?_ ?_ ?_ ?_ ?_ ?_); rfl; decide; rfl; rfl; rfl; (simp [Value.oneCell']); (unfold maxLen; omega); omega; intro g c w2 hr2 hg2 hl2)
          have hub : ∀ q, u5.ownBlock = some q → q < wr.heap.size := fun q e => (hr.lt q e).2
          have c0 : w2.cell? ⟨wr.heap.size, 0, none⟩ = some (.int .u8 o) := by
            rw [hg2.1.cell_far ⟨wr.heap.size, 0, none⟩ hs1 (fun e => by have := hub _ e.symm; exact absurd this (Nat.lt_irrefl _)), hk1 _ _ (by omega)]
            simp [go_sem]
          have c1 : w2.cell? ⟨wr.heap.size, 1, none⟩ = some (.int .u32 x) := by
            rw [hg2.1.cell_far ⟨wr.heap.size, 1, none⟩ hs1 (fun e => by have := hub _ e.symm; exact absurd this (Nat.lt_irrefl _)), hk1 _ _ (by omega)]
            simp [go_sem]
          have hw2 : wr.heap.size < w2.heap.size := Nat.lt_of_lt_of_le hs1 hg2.1.size
          have hgne : g ≠ wr.heap.size := fun e => by
            rcases hg2.2 g rfl with h | h
            · have := hub _ h; omega
            · omega
          have keepA : ∀ (W W' : World) (n : Nat) (v' : Value), Grew W W' (.slice (some ⟨g, 0, none⟩) n c) v' → (W.cell? ⟨wr.heap.size, 0, none⟩ = some (.int .u8 o) ∧ W.cell? ⟨wr.heap.size, 1, none⟩ = some (.int .u32 x) ∧ w2.grownBy W (some g)) → W'.cell? ⟨wr.heap.size, 0, none⟩ = some (.int .u8 o) ∧ W'.cell? ⟨wr.heap.size, 1, none⟩ = some (.int .u32 x) ∧ w2.grownBy W' (some g) := by
            intro W W' n v' hb ⟨e1, e2, e3⟩
            have h4 : wr.heap.size < W.heap.size := Nat.lt_of_lt_of_le hw2 e3.size
            have hne : ∀ j, (some (⟨wr.heap.size, j, none⟩ : Addr).block ≠ (Value.slice (some ⟨g, 0, none⟩) n c).ownBlock) := fun j e => hgne (by simpa [Value.ownBlock] using e.symm)
            exact ⟨(hb.1.cell_far ⟨wr.heap.size, 0, none⟩ h4 (hne 0)).trans e1, (hb.1.cell_far ⟨wr.heap.size, 1, none⟩ h4 (hne 1)).trans e2, grownBy_trans e3 hb.1 (fun k e => .inl e)⟩
          have keepL : ∀ W W' : World, Below W.heap.size W W' → (W.cell? ⟨wr.heap.size, 0, none⟩ = some (.int .u8 o) ∧ W.cell? ⟨wr.heap.size, 1, none⟩ = some (.int .u32 x) ∧ w2.grownBy W (some g)) → W'.cell? ⟨wr.heap.size, 0, none⟩ = some (.int .u8 o) ∧ W'.cell? ⟨wr.heap.size, 1, none⟩ = some (.int .u32 x) ∧ w2.grownBy W' (some g) := by
            intro W W' hb hS
            exact keepA W W' 0 (.slice (some ⟨g, 0, none⟩) 0 c) ⟨below_grownBy hb _, fun g h => .inl h⟩ hS
          have hput := fun b W hc hS => (put_one b x ha W hc).mono fun e w' (hh : ∃ g cap, e = .returned (.slice (some ⟨g, 0, none⟩) 4 cap) ∧ 4 ≤ cap ∧ cap ≤ maxLen ∧ W.heap.size ≤ g ∧ g < w'.heap.size ∧
              (∀ j, j < 4 → w'.cell? ⟨g, j, none⟩ = (encN .u8 (le4 x))[j]?) ∧ Below W.heap.size W w') => And.intro hh (keepL W w' (by obtain ⟨_, _, _, _, _, _, _, _, h⟩ := hh; exact h) hS)
          have hszz := fun W hS => (hsz W).mono fun e w' (hh : _ ∧ _) => And.intro hh (keepL W w' hh.2 hS)
          have hsz1 : sizeN o x = 1 + widthOf o := by rw [sizeN, if_pos hce]
          rw [hsz1] at hszz
          have hwd := width_le o
          have hsub : IntKind.i64.wrap (1 + (widthOf o : Int) - 1) = (widthOf o : Int) := by
            rw [IntWalk.i64_in _ (by omega)]; omega
          have hsub2 : IntKind.i64.wrap (widthOf o : Int) = (widthOf o : Int) := by rw [IntWalk.i64_in _ (by omega)]
          generalize widthOf o = wd at *
          have hwd0 : (0 : Int) ≤ (wd : Int) := by omega
          have hl4 : ((encN .u8 (le4 x)).take wd).length = wd * 1 := by rw [List.length_take, encN_length, le4_length]; omega
          have h1c : ∀ u ∈ (encN .u8 (le4 x)).take wd, u.oneCell' = true := fun u h => encN_one _ _ u (List.mem_of_mem_take h)
          have hb63 : (encode (List.take k l)).length + 1 + wd ≤ maxLen := by unfold maxLen; omega
          have hb47 : ((encode (List.take k l)).length + 1 + wd) * 1 ≤ 140737488355328 := by omega
          have Hl4 := Lib.hid hl4
          have H1c := Lib.hid h1c
          clear hl4 h1c
          have Hput := Lib.hid hput
          have Hsz := Lib.hid hszz
          have Hkeep := Lib.hid keepL
          have HkeepA := Lib.hid keepA
          clear keepA
          have C0 := Lib.hid c0
          have C1 := Lib.hid c1
          clear hput hszz keepL c0 c1 hub hsz hsz1
          go_region_held3 (fun w' => w'.cell? ⟨wr.heap.size, 0, none⟩ = some (.int .u8 o) ∧ w'.cell? ⟨wr.heap.size, 1, none⟩ = some (.int .u32 x) ∧ w2.grownBy w' (some g))
            (first | assumption | exact HkeepA.out _ _ _ _ hg3 (by assumption) | exact Hkeep.out _ _ (Bel.new _ _) (by assumption) | exact ⟨C0.out, C1.out, below_grownBy (Below.refl _ _).drew _⟩)
            (first | (refine step_append_grew rfl (.tmp 30) (.tmp 38) 81 rfl 5 i0 (.int .u8 0) 1 1 Try.underlying81 hi hz0 hz1 hz2 rfl Nat.one_pos _ _ _ rfl (own_below (own_below (own_below hr2 (Bel.dr (Bel.new _ _))) hbel) hbs) ⟨g2, 0, none⟩ wd cap2 ((encN .u8 (le4 x)).take wd) rfl Hl4.out (news_take hcells hg2u hbs hwd) H1c.out hb63 hb47 ?_; intro v3 w3 hr3 hg3 hnil3) | (go_at_call 47; refine (Hput.out _ _ ?_ ?_).mono ?_; exact cell_newD _ _ _; assumption; rintro e w' ⟨⟨g2, cap2, rfl, hcap, hcapm, hg2l, hg2u, hcells, hbel⟩, hS⟩; have hle2 : wd ≤ cap2 := Nat.le_trans hwd hcap; have hle : (wd : Int) ≤ (cap2 : Int) := Int.ofNat_le.2 hle2) | (go_at_call 48; refine (Hsz.out _ ?_).mono ?_; assumption; rintro e w' ⟨⟨rfl, hbs⟩, hS2⟩))
          clear hsub hsub2
          have hall := Lib.hid ((((hgb.trans hg2).then (Bel.tr (Bel.tr (Bel.dr (Bel.new _ _)) hbel) hbs)).trans hg3))
          have hfin : w3.ownsRow 0 5 1 v3 (encode (List.take (k + 1) l)).length (encN .u8 (encode (List.take (k + 1) l))) := by
            have e1 : (encode (List.take (k + 1) l)).length = (encode (List.take k l)).length + 1 + wd := by
              rw [Hen.out, List.length_append, List.length_append, List.length_take, le4_length]; simp; omega
            have e2 : encN .u8 (encode (List.take (k + 1) l)) = encN .u8 (encode (List.take k l)) ++ #[Value.int IntKind.u8 o].toList ++ (encN .u8 (le4 x)).take wd := by
              rw [Hen.out, encN_append, encN_append]; simp [encN, List.map_take]
            rw [e1, e2]; exact hr3
          have Hfin := Lib.hid hfin
          clear hfin
          go_wp2
          go_roundw
          case rel => exact ⟨k + 1, by omega, by go_num, fun j h => by
            by_cases e : j = k
            · subst e; rw [Her.out]
            · exact Hj.out j (by omega), Hfin.out, hall.out, fun h => by omega⟩
          case measure => simp [intOf]; omega
        · have hne : ((checkN o x : Int) != 0) = true := by simp; exact hce
          have her : errAt l k ≠ 0 := by rw [Her.out]; exact hce
          have he := encRes_bad (by omega) hlt' her Hj.out
          rw [Her.out] at he
          have He := Lib.hid he
          clear he hce her
          generalize checkN o x = c at *
          go_wp2
          go_ret3
          refine ⟨.slice none 0 0, by rw [He.out]; rfl, by rw [He.out]; exact World.ownsRow_nil _ _ _ _, Grew.nilOf hgb, fun _ => rfl⟩
      · have : k = l.length := by omega
        subst this
        rw [List.take_length] at hr
        have he := encRes_ok (by omega) Hj.out
        have He := Lib.hid he
        clear he
        have hu : encode l = [] → u5 = .slice none 0 0 := fun h => Hu.out (by
          by_cases h0 : 0 < l.length
          · have := encode_nil h0; rw [h] at this; simp at this
          · omega)
        have Hu2 := Lib.hid hu
        clear hu
        go_wp2
        go_ret3
        exact ⟨u5, by rw [He.out]; rfl, by rw [He.out]; exact hr, hg, by rw [He.out]; exact Hu2.out⟩
end Go.Proofs.Ytofkamnmgpkehab
