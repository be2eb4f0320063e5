import Derived.Test.YtdigcbkjlppenaaWay
import Derived.Test.YtdigcbkjlppenaaPick
import Derived.Test.YtdigcbkjlppenaaKnownW
namespace Go.Proofs.Ytdigcbkjlppenaa
open Go.RowKit
theorem knownT6 (a b c d e f : Int) (w : World) : (Instr.buildSlice 41 6 #[(0, .int .u8 a), (1, .int .u8 b), (2, .int .u8 c), (3, .int .u8 d), (4, .int .u8 e), (5, .int .u8 f)]).run Try.prog w =
    .ok (.slice (some ⟨w.heap.size, 0, none⟩) 6 6) (w.alloc (.cells #[.int .u8 a, .int .u8 b, .int .u8 c, .int .u8 d, .int .u8 e, .int .u8 f] 5)) := by kernel_rfl
theorem knownD6 (W : World) : Calls Try.prog 44 #[.slice (some ⟨W.heap.size, 0, none⟩) 6 6] (W.alloc (.cells #[.int .u8 3, .int .u8 8, .int .u8 0, .int .u8 4, .int .u8 8, .int .u8 0] 5)) fun e w' =>
    ∃ g c, e = .returned (.tuple #[.slice (some ⟨g, 0, none⟩) 2 c, .int .i64 0, .int .i64 0]) ∧ Below W.heap.size W w' ∧ w'.cell? ⟨g, 0, none⟩ = some (.int .u8 3) ∧ w'.cell? ⟨g, 3, none⟩ = some (.int .u32 8) := by
  have h : decRes [3, 8, 0, 4, 8, 0] = ([(3, 8), (4, 8)], 0, 0) := by decide +kernel
  have hr := reads_new W 1 6 #[.int .u8 3, .int .u8 8, .int .u8 0, .int .u8 4, .int .u8 8, .int .u8 0] 5 rfl (by decide)
  refine (decode_any _ [3, 8, 0, 4, 8, 0] _ ⟨hr, by decide⟩).mono ?_
  rintro e w' ⟨u, he, ho, hb, _⟩
  rw [h] at he ho
  obtain ⟨g, c, rfl, _, _, _, hc⟩ := own_form ho (by decide)
  exact ⟨g, c, he, Bel.of hb, hc 0 (by decide), hc 3 (by decide)⟩
theorem valid_lt {c : List (Nat × Nat)} (hc : ∀ i ∈ c, checkN i.1 i.2 = 0) : ∀ i ∈ c, i.1 < 256 ∧ i.2 < 4294967296 := fun i hi => by
  obtain ⟨h1, h2⟩ := check_zero (hc i hi)
  have := most_le i.1
  unfold isOp at h1
  simp at h1
  omega
theorem startsTo_get (c : List (Nat × Nat)) (k m : Nat) (hk : k ≤ m) : (startsTo c m).getD k 0 = startAt c k := by
  simp [startsTo, startAt, List.getD_eq_getElem?_getD, List.getElem?_range (show k < m + 1 by omega)]
theorem Bytes.take {w : World} {a : Option Addr} {cap : Nat} {l : List Nat} (h : Bytes w (.slice a l.length cap) l) {n : Nat} (hn : n ≤ l.length) : Bytes w (.slice a n cap) (l.take n) := by
  have hlen : (l.take n).length = n := by rw [List.length_take]; omega
  obtain ⟨⟨a', cap', hv, hl, hn', hm, ha, hp⟩, hlt⟩ := h
  simp only [Value.slice.injEq] at hv
  obtain ⟨rfl, -, rfl⟩ := hv
  refine ⟨⟨a, cap, by rw [hlen], by rw [encN_length, Nat.mul_one], by omega, hm, ha, fun h0 => ?_⟩, fun i hi => hlt i (List.mem_of_mem_take hi)⟩
  obtain ⟨b, off, e, hb, hc⟩ := hp (by omega)
  refine ⟨b, off, e, hb, fun j hj => ?_⟩
  rw [encN_length, hlen] at hj
  rw [hc j (by rw [encN_length]; omega), encN_at _ l j (by omega), encN_at _ (l.take n) j (by omega)]
  congr 2
  rw [List.getD_eq_getElem?_getD, List.getD_eq_getElem?_getD, List.getElem?_take, if_pos hj]
def begF (c : List (Nat × Nat)) (n : Nat) : Nat → Bool
  | 0 => false
  | m + 1 => (startAt c m == n) || begF c n m
theorem begF_true {c : List (Nat × Nat)} {n k : Nat} (h : startAt c k = n) : ∀ m, k < m → begF c n m = true
  | 0, hk => by omega
  | m + 1, hk => by
    by_cases e : k = m
    · subst e; simp [begF, h]
    · simp [begF, begF_true h m (by omega)]
theorem begF_false {c : List (Nat × Nat)} {n : Nat} : ∀ m, (∀ k, k < m → startAt c k ≠ n) → begF c n m = false
  | 0, _ => rfl
  | m + 1, h => by
    have := h m (by omega)
    simp [begF, this, begF_false m (fun k hk => h k (by omega))]
set_option maxRecDepth 100000 in
set_option maxHeartbeats 4000000 in
theorem isaOneWay_walk (x : Value) (bs : List Nat) (cut : Int) (w : World) (hx : Bytes w x bs) (hbl : bs.length ≤ 140737488351232) : Calls Try.prog 15 #[x, .int .i64 cut] w fun e w' => e = .returned (.bool true) ∧ Below w.heap.size w w' := by
  have hT6 := knownT6
  have hlt := hx.lt
  have Hx := Lib.hid hx
  obtain ⟨a, cap, rfl, hlc, hcm, hnil, hp⟩ := hx.opened
  have hlm : bs.length + 1 ≤ 9223372036854775807 := by omega
  have hcapm : cap ≤ 9223372036854775807 := by unfold maxLen at hcm; omega
  clear hnil hp hx
  have hi1 := @decRes_inv bs hlt
  have hi2 := @decRes_err bs
  have hdec := fun W hb => decode_any _ bs W (Hx.out.below (w' := W) hb)
  unfold DecPost at hdec
  have Hdec := Lib.hid hdec
  have Hi1 := Lib.hid hi1
  have Hi2 := Lib.hid hi2
  have Hlt := Lib.hid hlt
  clear hdec hi1 hi2 hlt
  go_enter Try.func15, Try.ntmps15
  go_wp2_with fail
  refine (knownD6 _).mono ?_
  rintro e w1 ⟨g1, c1, rfl, hb1, hc10, hc13⟩
  go_wp2_with fail
  refine (Hdec.out _ hb1).mono ?_
  rintro e w2 ⟨u2, rfl, o2, hb2, g2⟩
  have hb12 := Bel.tr hb1 hb2
  clear Hdec hc10 hc13
  obtain ⟨a2, c2, rfl⟩ := own_shape o2
  by_cases her : (decRes bs).2.2 = 0
  · obtain ⟨c, hcl, hcc, rfl, hdr⟩ := Hi1.out her
    rw [hdr] at o2 ⊢
    clear Hi1 Hi2 her
    have hcv : ∀ i ∈ c, i.1 < 256 ∧ i.2 < 4294967296 := valid_lt hcc
    have he := encode_ok _ c w2 (Instrs.own o2 hcv) hcl hcc
    have hpl := fun W hb => places_any _ c W (Instrs.own (own_below o2 hb) hcv)
    unfold PlPost at hpl
    have hpr : plRes c = (startsTo c c.length, 0) := by unfold plRes; rw [encRes_all hcl hcc, if_pos rfl]
    rw [hpr] at hpl
    have Hpl := Lib.hid hpl
    have Hcc := Lib.hid hcc
    have Ho2 := Lib.hid o2
    clear hpl hcc o2
    go_wp2_with fail
    refine he.mono ?_
    rintro e w3 ⟨u3, rfl, o3, g3⟩
    clear he
    obtain ⟨a3, c3, rfl⟩ := own_shape o3
    have O3 := Lib.hid o3
    clear o3
    go_wp2_with fail
    refine (Hpl.out _ g3.bel).mono ?_
    rintro e w4 ⟨u4, rfl, o4, g4⟩
    clear Hpl
    rw [startsTo_length] at o4
    obtain ⟨g5, c5, rfl, hc5, hm5, hg5, hcell⟩ := own_form o4 (by omega)
    have hb14 := Bel.tr (Bel.tr hb12 g3.bel) g4.bel
    have hs := sameBytes_true _ _ (encode c) w4 (Bytes.own (own_below O3.out g4.bel) (encode_lt hcv)) (Hx.out.below hb14)
    have hcs : ∀ k, k ≤ c.length → w4.cell? ⟨g5, k, none⟩ = some (.int .i64 (startAt c k)) := fun k hk => by
      rw [hcell k (by rw [encN_length, startsTo_length]; omega), encN_at _ _ _ (by rw [startsTo_length]; omega), startsTo_get c k _ hk]
    have Hcs := Lib.hid hcs
    clear hcell hcs o4 g3 g4
    go_wp2_with fail
    refine hs.mono ?_
    rintro e w5 ⟨rfl, hb5⟩
    have hpk := fun W => pick_any cut ((encode c).length + 1) (by omega) (by omega) W
    go_wp2_with fail
    refine (hpk _).mono ?_
    rintro e w6 ⟨n, rfl, hn, rfl⟩
    clear hpk hs
    have hcs5 := fun k hk => (hb5.cell (p := ⟨g5, k, none⟩) hg5).trans (Hcs.out k hk)
    have Hcs5 := Lib.hid hcs5
    clear hcs5
    go_wp2
    go_loopw [15, 16, 17] (fun b1 la i wr => ∃ m : Nat, m ≤ c.length + 1 ∧ i = .int .i64 m ∧ b1 = .bool (begF c n m) ∧ la = .int .i64 (lastF c n m) ∧ wr = w6) (fun _ _ i _ => c.length + 1 - (intOf i).toNat)
    case atStart => exact ⟨0, by omega, rfl, rfl, rfl, rfl⟩
    case round =>
      obtain ⟨m, hm, rfl, rfl, rfl, rfl⟩ := hrel
      by_cases hlt' : m < c.length + 1
      · have hmI : (m : Int) < (c.length : Int) + 1 := by omega
        have hc6 := Hcs5.out m (by omega)
        have hbF : begF c n (m + 1) = ((startAt c m == n) || begF c n m) := rfl
        have hlF : lastF c n (m + 1) = if startAt c m ≤ n then startAt c m else lastF c n m := rfl
        have HbF := Lib.hid hbF
        have HlF := Lib.hid hlF
        clear hbF hlF
        generalize begF c n m = b0 at *
        generalize lastF c n m = l0 at *
        generalize startAt c m = s0 at *
        by_cases h1 : s0 = n
        · subst h1
          go_wp2
          go_roundw
          case rel => exact ⟨m + 1, by omega, by go_num, by rw [HbF.out]; simp, by rw [HlF.out, if_pos (Nat.le_refl _)], trivial⟩
          case measure => simp [intOf]; omega
        · have h1' : ((s0 : Int) == (n : Int)) = false := by simp; omega
          by_cases h2 : s0 ≤ n
          · have h2' : (s0 : Int) ≤ (n : Int) := by omega
            go_wp2
            go_roundw
            case rel => exact ⟨m + 1, by omega, by go_num, by rw [HbF.out]; simp [h1], by rw [HlF.out, if_pos h2], trivial⟩
            case measure => simp [intOf]; omega
          · have h2' : ¬ (s0 : Int) ≤ (n : Int) := by omega
            go_wp2
            go_roundw
            case rel => exact ⟨m + 1, by omega, by go_num, by rw [HbF.out]; simp [h1], by rw [HlF.out, if_neg h2], trivial⟩
            case measure => simp [intOf]; omega
      · obtain rfl : m = c.length + 1 := by omega
        have hnl : (n : Int) ≤ ((encode c).length : Int) := by omega
        have hb16 := Bel.tr hb14 hb5
        have hd := decode_any _ _ wr ((Hx.out.below hb16).take (n := n) (by omega))
        unfold DecPost at hd
        have hend : n ≤ startAt c c.length := by unfold startAt; rw [List.take_length]; omega
        rcases cut_where c n c.length (Nat.le_refl _) hend with ⟨k, hk, rfl⟩ | ⟨k, hk, e1, e2⟩
        · rw [cut_at hcl Hcc.out k] at hd
          rw [begF_true rfl (c.length + 1) (by omega)]
          go_wp2_with fail
          refine hd.mono ?_
          rintro e w7 ⟨u7, rfl, -, hb7, -⟩
          go_wp2
          go_ret
          exact ⟨rfl, Bel.tr hb16 hb7⟩
        · rw [cut_in hcl Hcc.out hk e1 e2] at hd
          rw [begF_false (c.length + 1) (fun j hj => by
            by_cases h : j ≤ k
            · have := startAt_mono c j k h (by omega)
              omega
            · have := startAt_mono c (k + 1) j (by omega) (by omega)
              omega), lastF_in hk e1 e2 (c.length + 1) (by omega) (by omega)]
          go_wp2_with fail
          refine hd.mono ?_
          rintro e w7 ⟨u7, rfl, -, hb7, -⟩
          go_wp2
          go_ret
          exact ⟨rfl, Bel.tr hb16 hb7⟩
  · obtain ⟨h1, h2⟩ := Hi2.out her
    have hne : (((decRes bs).2.2 : Int) != 0) = true := by simp; exact her
    have h2' : (((decRes bs).2.1 : Nat) : Int) < (bs.length : Int) := by omega
    rw [h1]
    go_wp2
    go_ret
    exact ⟨rfl, hb12⟩
theorem isaOneWay_full (x : Value) (bs : List Nat) (cut : Int) (w : World) (hx : Bytes w x bs) (hbl : bs.length ≤ 140737488351232) (_ : (Lit.int .i64 cut).wf = true) :
    Calls Try.prog 15 #[x, .int .i64 cut] w fun e w' => e = .returned (.bool true) ∧ Below w.heap.size w w' := isaOneWay_walk x bs cut w hx hbl
end Go.Proofs.Ytdigcbkjlppenaa
