import Derived.Test.YtdigcbkjlppenaaApartI
import Derived.Test.YtdigcbkjlppenaaEncodeW
/- IsaPlaces: the walk. -/
namespace Go.Proofs.Ytdigcbkjlppenaa
open Go.RowKit
set_option linter.unusedVariables false
theorem run_buildSlice71_2 (a1 a2 : Option Addr) (n1 n2 c1 c2 : Nat) (w : World) : (Instr.buildSlice 71 2 #[(0, .slice a1 n1 c1), (1, .slice a2 n2 c2)]).run Try.prog w = .ok (.slice (some ⟨w.heap.size, 0, none⟩) 2 2) (w.alloc (.cells #[.slice a1 n1 c1, .slice a2 n2 c2] 42)) := by kernel_rfl
theorem apart2I {w : World} {B : Nat} {u1 u2 : Value} {n1 n2 : Nat} {x1 x2 : List Value} (hB : B ≤ w.heap.size) (o1 : w.ownsRow B 3 1 u1 n1 x1) (o2 : w.ownsRow B 3 1 u2 n2 x2)
    (h1 : n1 ≤ 8796093022208) (h2 : n2 ≤ 8796093022208) (h12 : Aside u1 u2) :
    Calls Try.prog 43 #[.slice (some ⟨w.heap.size, 0, none⟩) 2 2] (w.alloc (.cells #[u1, u2] 42)) fun e w' => e = .returned (.bool true) ∧ Below B (w.alloc (.cells #[u1, u2] 42)) w' := by
  have hL : Lists B w.heap.size [u1, u2] := Lists.two hB (fun e => absurd (o1.lt _ e).2 (Nat.lt_irrefl _)) (fun e => absurd (o2.lt _ e).2 (Nat.lt_irrefl _)) h12
  refine apartInts_true w.heap.size 2 B [u1, u2] _ (Nat.le_refl _) (by decide) (by simp) hL ?_ (Ph1.new (by simp) (fun j v hj => cells_new _ _ _ _ _ hj) ?_)
  · intro j v hj
    match j with
    | 0 => cases hj; rw [own_lenV o1]; exact h1
    | 1 => cases hj; rw [own_lenV o2]; exact h2
    | j + 2 => cases hj
  · intro j v hj
    match j with
    | 0 => cases hj; exact ⟨_, _, o1.alloc _⟩
    | 1 => cases hj; exact ⟨_, _, o2.alloc _⟩
    | j + 2 => cases hj
theorem plRes_len (l : List (Nat × Nat)) : (plRes l).1.length ≤ 16385 := by
  unfold plRes
  split
  · rename_i h
    have := (encRes_zero h).1
    show (startsTo l l.length).length ≤ _
    rw [startsTo_length]; omega
  · simp
/-- The code that is written over. -/
def overA (n : Nat) : List (Nat × Nat) := List.replicate n (12, 1)
theorem overA_length (n : Nat) : (overA n).length = n := by simp [overA]
theorem overA_succ (n : Nat) : overA (n + 1) = overA n ++ [(12, 1)] := by simp [overA, List.replicate_succ']
theorem overA_lt (n : Nat) : ∀ i ∈ overA n, i.1 < 256 ∧ i.2 < 4294967296 := by
  intro i hi
  rw [List.eq_of_mem_replicate hi]; decide
theorem overA_enc (n : Nat) : (encode (overA n)).length = 2 * n := by
  induction n with
  | zero => rfl
  | succ n ih =>
    rw [overA_succ, encode_append, List.length_append, ih]
    have : (encode [(12, 1)]).length = 2 := by decide +kernel
    omega
theorem overA_take (n k : Nat) (h : k ≤ n) : (overA n).take k = overA k := by
  unfold overA; rw [List.take_replicate, Nat.min_eq_left h]
theorem overA_few {n : Nat} (h : n ≤ 16384) : plRes (overA n) = ((List.range (n + 1)).map (fun j => 2 * j), 0) := by
  have he : encRes (overA n) = (encode (overA n), 0, 0) := encRes_all (by rw [overA_length]; exact h) (fun i hi => by
    rw [List.eq_of_mem_replicate hi]; decide +kernel)
  unfold plRes
  rw [he, if_pos rfl, overA_length]
  congr 1
  unfold startsTo
  refine List.map_congr_left fun j hj => ?_
  rw [List.mem_range] at hj
  rw [overA_take n j (by omega), overA_enc]
theorem overA_many {n : Nat} (h : 16384 < n) : plRes (overA n) = ([], 73) := by
  have he : encRes (overA n) = ([], 16384, 73) := encRes_many (by rw [overA_length]; exact h)
  unfold plRes
  rw [he, if_neg (by decide)]
theorem Ints.own {w : World} {v : Value} {l : List Nat} (h : w.ownsRow 0 3 1 v l.length (encN .i64 l)) : Ints w v l := Reads.own h (by decide)
set_option maxRecDepth 100000 in
set_option maxHeartbeats 4000000 in
theorem isaPlaces_walk (x : Value) (l : List (Nat × Nat)) (w : World) (hx : Instrs w x l) (hl : l.length * 8 ≤ 140737488351232) :
    Calls Try.prog 13 #[x] w fun e w' => e = .returned (.bool true) ∧ Below w.heap.size w w' := by
  obtain ⟨i0, hi, hz0, hz1, hz2⟩ := info_parts info36'
  have hb36 := run_build36
  have hb712 := run_buildSlice71_2
  have HX := Lib.hid hx
  obtain ⟨ax, cx, rfl, hlcx, hcmx, -, -⟩ := hx.opened
  have h1 := lentCode_any _ l hl w hx
  have hpl := plRes_len l
  clear hx
  go_enter Try.func13, Try.ntmps13
  go_wp2_with fail
  refine h1.mono ?_
  rintro e w1 ⟨g0, c0, rfl, o0, hb1, hg0⟩
  clear h1
  have hg1 := (o0.lt g0 rfl).2
  have hltl : ∀ i ∈ l ++ marksC 0 0 64, i.1 < 256 ∧ i.2 < 4294967296 := fun i hi => by
    rcases List.mem_append.1 hi with h | h
    · exact HX.out.2 i h
    · exact marksC_lt _ _ _ i h
  have hlen64 : (l ++ marksC 0 0 64).length = l.length + 64 := by rw [List.length_append, marksC_length]
  have Hltl := Lib.hid hltl
  have HL := Lib.hid hlen64
  clear hltl hlen64
  have hlent : ∀ W, Below w1.heap.size w1 W → Instrs W (.slice (some ⟨g0, 0, none⟩) (l.length + 64) c0) (l ++ marksC 0 0 64) := fun W hb =>
    Instrs.own (by rw [HL.out]; exact own_below o0 hb) Hltl.out
  have hcap : l.length + 64 ≤ c0 := (own_cap o0).1
  have hcl : (l.length : Int) ≤ (c0 : Int) := by omega
  have Hlent := Lib.hid hlent
  have O0 := Lib.hid o0
  clear hlent o0
  have hp1 := places_any _ l w1 (Hlent.out w1 (Below.refl _ _)).head
  have Hp2 := Lib.hid (fun W hb => refplaces_any _ l W (HX.out.below (w' := W) hb))
  have Hp3 := Lib.hid (fun W hb => places_any _ l W (Hlent.out W hb).head)
  unfold PlPost at hp1
  go_wp2_with fail
  refine hp1.mono ?_
  rintro e w2 ⟨u1, rfl, o1, r1⟩
  clear hp1
  have O1 := Lib.hid o1
  have R1 := Lib.hid r1
  obtain ⟨a1, n1, hu1⟩ := own_shape o1
  clear o1 r1
  have hb12 := R1.out.bel
  have hb2 := Bel.tr hb1 hb12
  have hp2 := Hp2.out w2 hb2
  unfold PlPost at hp2
  go_wp2_with fail
  refine hp2.mono ?_
  rintro e w3 ⟨u2, rfl, o2, r2⟩
  clear hp2 Hp2
  have O2 := Lib.hid o2
  have R2 := Lib.hid r2
  obtain ⟨a2, n2, hu2⟩ := own_shape o2
  clear o2 r2
  have hb23 := R2.out.bel
  have hs := sameInts_true u1 u2 (plRes l).1 w3 (Ints.own (own_below O1.out hb23)) (Ints.own O2.out)
  have hk := fun W hb => keptCode_true _ (.slice ax l.length cx) l hl W (Hlent.out W hb) (HX.out.below (Bel.tr hb1 hb))
  have Hs := Lib.hid hs
  have Hk := Lib.hid hk
  subst hu1
  subst hu2
  clear hs hk
  go_wp2_with fail
  refine Hs.out.mono ?_
  rintro e w4 ⟨rfl, hb34⟩
  clear Hs
  have hb14 := Bel.tr hb12 (Bel.tr hb23 hb34)
  have hk := Hk.out w4 hb14
  clear Hk
  go_wp2_with fail
  refine hk.mono ?_
  rintro e w5 ⟨rfl, hb45⟩
  clear hk
  have hb15 := Bel.tr hb14 hb45
  have hp3 := Hp3.out w5 hb15
  unfold PlPost at hp3
  clear Hp3
  go_wp2_with fail
  refine hp3.mono ?_
  rintro e w6 ⟨u3, rfl, o3, r3⟩
  clear hp3
  have O3 := Lib.hid o3
  have R3 := Lib.hid r3
  obtain ⟨a3, n3, hu3⟩ := own_shape o3
  clear o3 r3
  have hb56 := R3.out.bel
  have hb16 := Bel.tr hb15 hb56
  have hb36' := Bel.tr hb34 (Bel.tr hb45 hb56)
  have hs2 := sameInts_true u3 _ (plRes l).1 w6 (Ints.own O3.out) (Ints.own (own_below O2.out hb36'))
  have Hs2 := Lib.hid hs2
  subst hu3
  clear hs2
  go_wp2_with fail
  refine Hs2.out.mono ?_
  rintro e w7 ⟨rfl, hb67⟩
  clear Hs2
  have hap := apart2I (w := w7) (B := w1.heap.size) (Bel.tr hb16 hb67).size (own_from (own_below O1.out (Bel.tr hb23 (Bel.tr hb36' hb67))) (fresh_ge R1.out (Nat.le_refl _))) (own_from (own_below O3.out hb67) (fresh_ge R3.out hb15.size))
    (by omega) (by omega) (Aside.of w2.heap.size (fun g e => (O1.out.lt g e).2) (fun g e => by have := fresh_ge R3.out (Nat.le_refl _) g e; have := hb23.size; have := hb34.size; have := hb45.size; omega))
  have Hap := Lib.hid hap
  clear hap
  go_wp2_with fail
  refine Hap.out.mono ?_
  rintro e w8 ⟨rfl, hb78⟩
  have hb18 : Below w1.heap.size w1 w8 := (Bel.al (Bel.tr hb16 hb67) _).trans hb78
  have hO8 := Lib.hid (own_below O0.out hb18)
  have hb08 := Bel.tr hb1 hb18
  clear Hap Hlent O1 O2 O3 R1 R2 R3 hb12 hb2 hb23 hb34 hb14 hb45 hb15 hb56 hb16 hb36' hb67 hb78 hb18
  go_wp2_with fail
  go_loopw [10] (fun i wr => ∃ k : Nat, k ≤ l.length ∧ i = .int .i64 k ∧ wr.ownsRow 0 36 2 (.slice (some ⟨g0, 0, none⟩) (l.length + 64) c0) (l.length + 64) (encI (overA k ++ (l.drop k ++ marksC 0 0 64))) ∧ Below w.heap.size w wr) (fun i _ => l.length - (intOf i).toNat)
  case atStart => exact ⟨0, by omega, rfl, hO8.out, hb08⟩
  case round =>
    clear hO8 hb08
    obtain ⟨k, hk, rfl, hr, hbb⟩ := hrel
    by_cases hlt : k < l.length
    · have hdrop : l.drop k = l.getD k (0, 0) :: l.drop (k + 1) := by
        rw [List.drop_eq_getElem_cons hlt, List.getD_eq_getElem?_getD, List.getElem?_eq_getElem hlt]; rfl
      rw [hdrop, List.cons_append] at hr
      generalize l.getD k (0, 0) = ins at hr
      have c1 : wr.cell? ⟨g0, k * 2, none⟩ = some (.int .u8 ins.1) := by
        rw [hr.cellAt (k * 2) (by omega), encI_append, List.getElem?_append_right (by rw [encI_length, overA_length]; omega), encI_length, overA_length, Nat.sub_self]; rfl
      have c2 : wr.cell? ⟨g0, k * 2 + 1, none⟩ = some (.int .u32 ins.2) := by
        rw [hr.cellAt (k * 2 + 1) (by omega), encI_append, List.getElem?_append_right (by rw [encI_length, overA_length]; omega), encI_length, overA_length, Nat.add_sub_cancel_left]; rfl
      have f1 := hr.frozenAt (k * 2)
      have f2 := hr.frozenAt (k * 2 + 1)
      have h1 := hr.stored (k * 2) (.int .u8 12)
      have h2 := h1.1.stored (k * 2 + 1) (.int .u32 1)
      have g0' : (k : Int) < (l.length : Int) := by omega
      have g1 : (k : Int) < (l.length : Int) + 64 := by omega
      have hgr := grownBy_trans h1.2 h2.2 (fun q e => .inl e)
      have hb2 : Below w.heap.size w ((wr.setCell ⟨g0, k * 2, none⟩ (.int .u8 12)).setCell ⟨g0, k * 2 + 1, none⟩ (.int .u32 1)) := hbb.grown hgr hbb.size (fun q e => by cases e; exact hg0)
      have hr2 := h2.1
      have ek2 : ((encI (overA k ++ ins :: (l.drop (k + 1) ++ marksC 0 0 64))).set (k * 2) (.int .u8 12)).set (k * 2 + 1) (.int .u32 1) = encI (overA (k + 1) ++ (l.drop (k + 1) ++ marksC 0 0 64)) := by
        have := encI_set (overA k) (l.drop (k + 1) ++ marksC 0 0 64) ins (12, 1)
        rw [overA_length] at this
        rw [overA_succ, List.append_assoc]
        exact this
      rw [ek2] at hr2
      have Hr2 := Lib.hid hr2
      have Hb2 := Lib.hid hb2
      clear h1 h2 hr hbb hdrop ek2 hr2 hb2 hgr
      go_wp2
      go_roundw
      case rel => exact ⟨k + 1, by omega, by go_num, Hr2.out, Hb2.out⟩
      case measure => simp [intOf]; omega
    · obtain rfl : k = l.length := by omega
      rw [List.drop_length, List.nil_append] at hr
      have hI : Instrs wr (.slice (some ⟨g0, 0, none⟩) ((overA l.length).length + 64) c0) (overA l.length ++ marksC 0 0 64) := Instrs.own (by
        rw [List.length_append, marksC_length, overA_length]; exact hr) (fun i hi => by
        rcases List.mem_append.1 hi with h | h
        · exact overA_lt _ i h
        · exact marksC_lt _ _ _ i h)
      have hpp := places_any _ _ wr hI.head
      rw [overA_length] at hpp
      unfold PlPost at hpp
      have Hbb := Lib.hid hbb
      clear hr hI hbb hpl
      by_cases hmany : 16384 < l.length
      · rw [overA_many hmany] at hpp
        have hd : (16384 : Int) < (l.length : Int) := by omega
        have Hpp := Lib.hid hpp
        clear hpp
        go_wp2_with fail
        refine Hpp.out.mono ?_
        rintro e w9 ⟨u4, rfl, o4, r4⟩
        have hfin := Lib.hid (Bel.tr Hbb.out r4.bel)
        obtain ⟨a4, n4, hu4⟩ := own_shape o4
        subst hu4
        clear Hpp o4 r4
        go_wp2
        go_ret
        exact ⟨rfl, hfin.out⟩
      · rw [overA_few (by omega)] at hpp
        have hd : ¬ (16384 : Int) < (l.length : Int) := by omega
        have Hpp := Lib.hid hpp
        clear hpp
        go_wp2_with fail
        refine Hpp.out.mono ?_
        rintro e w9 ⟨u4, rfl, o4, r4⟩
        have hfin := Bel.tr Hbb.out r4.bel
        simp only [List.length_map, List.length_range] at o4
        obtain ⟨g4, n4, hu4, -, -, hg4, hc4⟩ := own_form o4 (by omega)
        subst hu4
        have hcc : ∀ j, j < l.length + 1 → w9.cell? ⟨g4, j, none⟩ = some (.int .i64 (2 * (j : Int))) := fun j hj => by
          rw [hc4 j (by simp [encN]; omega)]
          simp [encN, hj]
        have Hcc := Lib.hid hcc
        have hbr : Below w9.heap.size w9 w9 := Below.refl _ _
        clear Hpp o4 r4 hc4 hcc Hbb
        go_wp2_with fail
        go_loopw [13] (fun i wr => ∃ k : Nat, k ≤ l.length + 1 ∧ i = .int .i64 k ∧ wr = w9) (fun i _ => l.length + 1 - (intOf i).toNat)
        case atStart => exact ⟨0, by omega, rfl, rfl⟩
        case round =>
          obtain ⟨k, hk, rfl, rfl⟩ := hrel
          by_cases hlt : k < l.length + 1
          · have hq := Hcc.out k hlt
            have g0' : (0 : Int) ≤ (k : Int) := by omega
            have g1 : (k : Int) < (l.length : Int) + 1 := by omega
            go_wp2
            go_roundw
            case rel => exact ⟨k + 1, by omega, by go_num, trivial⟩
            case measure => simp [intOf]; omega
          · obtain rfl : k = l.length + 1 := by omega
            go_wp2
            go_ret
            exact ⟨rfl, hfin⟩
theorem isaPlaces_full (x : Value) (l : List (Nat × Nat)) (w : World) (hx : Instrs w x l) (hl : l.length * 8 ≤ 140737488351232) :
    Calls Try.prog 13 #[x] w fun e w' => e = .returned (.bool true) ∧ Below w.heap.size w w' := isaPlaces_walk x l w hx hl
end Go.Proofs.Ytdigcbkjlppenaa
