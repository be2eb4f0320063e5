import Derived.Test.YtofkamnmgpkehaaDoorAllW
/- The law's one call of a set of words. -/
namespace Go.Proofs.YtofkamnmgpkehaaDoor
open Go.RowKit
attribute [local go_sem] Oper.semAt_some
theorem bgb {w w2 w3 w4 : World} {r : Option Nat} (h1 : Below w.heap.size w w2) (h2 : w2.grownBy w3 r) (h3 : Below w3.heap.size w3 w4) : w.grownBy w4 r :=
  grownBy_trans (grownBy_trans (below_grownBy h1 r) h2 (fun k e => .inl e)) (below_grownBy h3 none) (fun k e => by cases e)
theorem add_same {ws ws' : List Nat} {x : Nat} {d : Bool} (h : mem ws x = true) (hme : ∀ y, mem ws' y = (mem ws y || (d && decide (y = x)))) : ∀ y, mem ws' y = mem ws y := fun y => by
  rw [hme]
  cases hy : mem ws y
  · rw [decide_eq_false (fun e => by rw [e, h] at hy; cases hy)]; simp
  · rfl
theorem drop_same {ws ws' : List Nat} {x : Nat} {d : Bool} (h : mem ws x = false) (hme : ∀ y, mem ws' y = (mem ws y && !(d && decide (y = x)))) : ∀ y, mem ws' y = mem ws y := fun y => by
  rw [hme]
  cases hy : mem ws y
  · rfl
  · rw [decide_eq_false (fun e => by rw [e, h] at hy; cases hy)]; simp
/-- What one call of a set leaves. -/
def StepTo (w : World) (B b N : Nat) (vw vl : Value) (e : Ending) (w' : World) : Prop :=
  ∃ (v' : Value) (l' ws' : List Nat), e = .returned (.tuple #[v', .bool true]) ∧ w.grownBy w' vw.ownBlock ∧ SetAt w' B b vw N ws' ∧ IsB N ws' l' ∧ w'.ownsRow 0 27 1 v' l'.length (encN .u32 l') ∧ ∀ g, v'.ownBlock = some g → vl.ownBlock = some g ∨ w.heap.size ≤ g
set_option maxRecDepth 100000 in
set_option maxHeartbeats 4000000 in
theorem step_any {w : World} {B b N : Nat} {vw : Value} {ws l : List Nat} (hA : SetAt w B b vw N ws) (hT : TabAt w) (hi : IsB N ws l) (vl : Value) (ho : w.ownsRow 0 27 1 vl l.length (encN .u32 l)) (hap : ∀ g, vl.ownBlock = some g → vw.ownBlock ≠ some g) (On Kind X : Int) (hk0 : 0 ≤ Kind) (hk4 : Kind ≤ 4) :
    Calls Tryd.prog 11 #[.pointer (some ⟨b, 0, none⟩), vl, .int .i64 N, .agg #[.int .i64 On, .int .i64 Kind, .int .i64 X]] w fun e w' => StepTo w B b N vw vl e w' := by
  have hN20 := hA.hN
  have hl20 := (is_le20 hA hi).1
  obtain ⟨x, hxw, hx32⟩ : ∃ x : Nat, IntKind.u32.wrap X = (x : Int) ∧ x < 4294967296 := ⟨(IntKind.u32.wrap X).toNat, by rw [IntKind.wrap_u32]; omega, by rw [IntKind.wrap_u32]; omega⟩
  have hw1 : IntKind.u64.wrap (x : Int) = (x : Int) := by rw [IntKind.wrap_u64]; omega
  have hw2 : IntKind.u64.wrap (N : Int) = (N : Int) := by rw [IntKind.wrap_u64]; omega
  have hN0 : (0 : Int) ≤ (N : Int) := by omega
  have hnb := Bel.new w (.cells #[.int .i64 On, .int .i64 Kind, .int .i64 X] 30)
  have HA := Lib.hid (hA.below hnb)
  have HT := Lib.hid (hT.below hnb)
  have HO := Lib.hid (own_below ho hnb)
  have Hnb := Lib.hid hnb
  have HI := Lib.hid hi
  have Hap := Lib.hid hap
  have HIn := Lib.hid (inwords_any vl l x (w.alloc (.cells #[.int .i64 On, .int .i64 Kind, .int .i64 X] 30)) hi.1.1 (Reads.own (own_below ho hnb) Nat.one_pos))
  obtain ⟨al, cl, rfl, hlc, hcm, -⟩ := own_sl ho
  have hcb1 : (w.alloc (.cells #[.int .i64 On, .int .i64 Kind, .int .i64 X] 30)).cell? ⟨w.heap.size, 1, none⟩ = some (.int .i64 Kind) := by simp [go_sem]
  have hcb2 : (w.alloc (.cells #[.int .i64 On, .int .i64 Kind, .int .i64 X] 30)).cell? ⟨w.heap.size, 2, none⟩ = some (.int .i64 X) := by simp [go_sem]
  clear hA hT hi ho hap hnb hcm
  go_enter Tryd.func11, Tryd.ntmps11
  go_wp2_with fail
  refine HIn.out.mono ?_
  rintro e w2 ⟨⟨k, rfl, hpl⟩, hb2⟩
  rw [HI.out.has x]
  have HA2 := Lib.hid (HA.out.below hb2)
  have HT2 := Lib.hid (HT.out.below hb2)
  have HO2 := Lib.hid (own_below HO.out hb2)
  have Hb02 := Lib.hid (Bel.tr Hnb.out hb2)
  have hcb1 := (hb2.cell (p := ⟨w.heap.size, 1, none⟩) (by simp)).trans hcb1
  have hcb2 := (hb2.cell (p := ⟨w.heap.size, 2, none⟩) (by simp)).trans hcb2
  have Hpl := Lib.hid hpl
  clear hb2 hpl HA HT HO HIn
  have hkc : Kind = 0 ∨ Kind = 1 ∨ Kind = 2 ∨ Kind = 3 ∨ Kind = 4 := by omega
  rcases hkc with rfl | rfl | rfl | rfl | rfl
  · have HAdd := Lib.hid (add_any HA2.out x hx32)
    by_cases hx : x < N
    · have hxd := decide_eq_true hx
      rw [hxd] at HAdd ⊢
      cases hm : mem ws x with
      | false =>
        rw [hm] at HAdd
        go_wp2_with fail
        refine HAdd.out.mono ?_
        rintro e w3 ⟨rfl, hg, ws', hs, hme⟩
        have HP := Lib.hid (put_any (.slice al l.length cl) l k x w3 (Reads.own (own_grown HO2.out hg (fun g e e2 => Hap.out g e e2)) Nat.one_pos) Hpl.out.1 hl20)
        have Hg := Lib.hid hg
        have Hs := Lib.hid hs
        have Hme := Lib.hid hme
        clear HAdd hg hs hme
        go_wp2_with fail
        refine HP.out.mono ?_
        rintro e w4 ⟨v', rfl, ho4, hb4⟩
        have Ho4 := Lib.hid ho4
        have Hb4 := Lib.hid hb4
        clear ho4 hb4 HP
        go_wp2_with fail
        go_ret2
        exact ⟨v', _, ws', rfl, bgb Hb02.out Hg.out Hb4.out, Hs.out.below Hb4.out, HI.out.put Hpl.out hm hx (fun y => by rw [Hme.out, Bool.true_and]), own_base Ho4.out, fun g e => .inr (Nat.le_trans Hb02.out.size (Nat.le_trans Hg.out.size (Ho4.out.lt g e).1))⟩
      | true =>
        rw [hm] at HAdd
        go_wp2_with fail
        refine HAdd.out.mono ?_
        rintro e w3 ⟨rfl, hg, ws', hs, hme⟩
        have Hg := Lib.hid hg
        have Hs := Lib.hid hs
        have Hme := Lib.hid hme
        clear HAdd hg hs hme
        go_wp2_with fail
        go_ret2
        exact ⟨_, l, ws', rfl, bgb Hb02.out Hg.out (Below.refl _ _), Hs.out, HI.out.same (add_same hm Hme.out), own_grown HO2.out Hg.out (fun g e e2 => Hap.out g e e2), fun g e => .inl e⟩
    · have hxd := decide_eq_false hx
      have hm : mem ws x = false := by
        rw [← HI.out.has2 x, hxd]; rfl
      rw [hxd, hm] at HAdd
      rw [hxd]
      go_wp2_with fail
      refine HAdd.out.mono ?_
      rintro e w3 ⟨rfl, hg, ws', hs, hme⟩
      have Hg := Lib.hid hg
      have Hs := Lib.hid hs
      have Hme := Lib.hid hme
      clear HAdd hg hs hme
      go_wp2_with fail
      go_ret2
      exact ⟨_, l, ws', rfl, bgb Hb02.out Hg.out (Below.refl _ _), Hs.out, HI.out.same (fun y => by rw [Hme.out]; simp), own_grown HO2.out Hg.out (fun g e e2 => Hap.out g e e2), fun g e => .inl e⟩
  · have HD := drop_any HA2.out x hx32
    rw [HI.out.has2 x] at HD
    have HDrop := Lib.hid HD
    clear HD
    cases hm : mem ws x with
    | false =>
      rw [hm] at HDrop
      go_wp2_with fail
      refine HDrop.out.mono ?_
      rintro e w3 ⟨rfl, hg, ws', hs, hme⟩
      have Hg := Lib.hid hg
      have Hs := Lib.hid hs
      have Hme := Lib.hid hme
      clear HDrop hg hs hme
      go_wp2_with fail
      go_ret2
      exact ⟨_, l, ws', rfl, bgb Hb02.out Hg.out (Below.refl _ _), Hs.out, HI.out.same (drop_same hm Hme.out), own_grown HO2.out Hg.out (fun g e e2 => Hap.out g e e2), fun g e => .inl e⟩
    | true =>
      rw [hm] at HDrop
      have hxN : x < N := HI.out.2 x ((HI.out.1.2 x).2 hm)
      have Hxd := Lib.hid (decide_eq_true hxN)
      obtain ⟨hkl, -⟩ := (Hpl.out.there HI.out.1.1).1 ((HI.out.1.2 x).2 hm)
      obtain ⟨i0, hi0, hz0, hz1, hz2⟩ := info_parts info27
      have Hone := Lib.hid (encN_one .u32)
      have hki : (k : Int) ≤ (l.length : Int) := by omega
      have hki1 : (k : Int) + 1 ≤ (l.length : Int) := by omega
      have hkc : (k : Int) ≤ (cl : Int) := by omega
      have hcL : l.length ≤ 9223372036854775807 := by omega
      go_wp2_with fail
      refine HDrop.out.mono ?_
      rintro e w3 ⟨rfl, hg, ws', hs, hme⟩
      have ho3 := own_grown HO2.out hg (fun g e e2 => Hap.out g e e2)
      have HO3 := Lib.hid ho3
      obtain ⟨a3, c3, e3, -, hcm3, hsp⟩ := own_sl ho3
      cases e3
      obtain ⟨g3, rfl, -, -⟩ := hsp (by omega)
      have hclL : cl ≤ 9223372036854775807 := by unfold maxLen at hcm3; omega
      have HT3 := Lib.hid (part_take k (Reads.own HO3.out Nat.one_pos) (by omega))
      have Hg := Lib.hid hg
      have Hs := Lib.hid hs
      have Hme := Lib.hid hme
      clear HDrop hg hs hme hsp ho3 hcm3
      by_cases hck : cl = k + 1
      · generalize hL : l.length = nn at *
        obtain rfl : nn = k + 1 := by omega
        obtain rfl : cl = k + 1 := hck
        have HL := Lib.hid hL
        clear hL
        go_wp2_with (first
          | ((with_reducible refine wpList_append_reads (o := ⟨some 68, .call { callee := .builtin .append, args := #[.tmp 64, .tmp 67], argTypes := #[28, 28] }, _, _, _, none⟩) rfl _ _ 28 rfl 27 i0 (.int .u32 0) 1 4 Tryd.underlying28 hi0 hz0 hz1 hz2 ?_ ?_ _ _ _ ?_ (World.ownsRow_nil _ _ _ _) _ _ _ ?_ HT3.out (Hone.out _) ?_ ?_ ?_); rfl; decide; rfl; rfl; (unfold maxLen; omega); omega; intro v4 w4 o4 g4; rw [Nat.zero_add, List.nil_append] at o4; obtain ⟨va, vc, rfl, hvc, -, -⟩ := own_sl o4)
          | ((with_reducible refine wpList_append_reads (o := ⟨some 74, .call { callee := .builtin .append, args := #[.tmp 69, .tmp 73], argTypes := #[28, 28] }, _, _, _, none⟩) rfl _ _ 28 rfl 27 i0 (.int .u32 0) 1 4 Tryd.underlying28 hi0 hz0 hz1 hz2 ?_ ?_ _ _ _ ?_ o4 _ _ _ ?_ (reads_zero _ ⟨g3, 0, none⟩) (by simp) ?_ ?_ ?_); rfl; decide; rfl; rfl; (unfold maxLen; omega); omega; intro v5 w5 o5 g5))
        have Hbl := Lib.hid (g4.trans g5).bel
        have Hfr := Lib.hid (g4.trans g5).2
        have hd0 : l.drop (k + 1) = [] := List.drop_of_length_le (by rw [HL.out]; exact Nat.le_refl _)
        have hrow : l.take k ++ l.drop (k + 1) = l.take k := by rw [hd0, List.append_nil]
        have hlk : (l.take k).length = k := by rw [List.length_take, HL.out]; omega
        rw [List.append_nil] at o5
        have Ho5 := Lib.hid o5
        obtain ⟨va5, vc5, rfl, -, -, -⟩ := own_sl o5
        clear o5 o4 g4 g5
        go_wp2_with fail
        go_ret2
        refine ⟨_, l.take k ++ l.drop (k + 1), ws', rfl, bgb Hb02.out Hg.out Hbl.out, Hs.out.below Hbl.out, HI.out.out Hpl.out hm (fun y => by rw [Hme.out, Hxd.out, Bool.true_and]), ?_, fun g e => .inr ?_⟩
        · rw [hrow, hlk]; exact Ho5.out
        · rcases Hfr.out g e with h' | h'
          · cases h'
          · exact Nat.le_trans Hb02.out.size (Nat.le_trans Hg.out.size h')
      · have HD3 := Lib.hid (part_drop (ad2 := ⟨g3, k + 1, none⟩) (cap2 := cl - (k + 1)) (k + 1) (Reads.own HO3.out Nat.one_pos) (by omega) (by omega) (fun _ => by rw [Addr.add_mid, Nat.zero_add]))
        go_wp2_with (first
          | ((with_reducible refine wpList_append_reads (o := ⟨some 68, .call { callee := .builtin .append, args := #[.tmp 64, .tmp 67], argTypes := #[28, 28] }, _, _, _, none⟩) rfl _ _ 28 rfl 27 i0 (.int .u32 0) 1 4 Tryd.underlying28 hi0 hz0 hz1 hz2 ?_ ?_ _ _ _ ?_ (World.ownsRow_nil _ _ _ _) _ _ _ ?_ HT3.out (Hone.out _) ?_ ?_ ?_); rfl; decide; rfl; rfl; (unfold maxLen; omega); omega; intro v4 w4 o4 g4; rw [Nat.zero_add, List.nil_append] at o4; obtain ⟨va, vc, rfl, hvc, -, -⟩ := own_sl o4; have HD4 := Lib.hid (HD3.out.below g4.bel))
          | ((with_reducible refine wpList_append_reads (o := ⟨some 74, .call { callee := .builtin .append, args := #[.tmp 69, .tmp 73], argTypes := #[28, 28] }, _, _, _, none⟩) rfl _ _ 28 rfl 27 i0 (.int .u32 0) 1 4 Tryd.underlying28 hi0 hz0 hz1 hz2 ?_ ?_ _ _ _ ?_ o4 _ _ _ ?_ HD4.out (Hone.out _) ?_ ?_ ?_); rfl; decide; rfl; rfl; (unfold maxLen; omega); omega; intro v5 w5 o5 g5))
        have Hbl := Lib.hid (g4.trans g5).bel
        have Hfr := Lib.hid (g4.trans g5).2
        have ho5 := o5
        rw [← encN_append] at ho5
        have hlen : k + (l.length - (k + 1)) = (l.take k ++ l.drop (k + 1)).length := by rw [List.length_append, List.length_take, List.length_drop]; omega
        rw [hlen] at ho5
        have Ho5 := Lib.hid ho5
        obtain ⟨va5, vc5, rfl, -, -, -⟩ := own_sl o5
        clear ho5 o5 o4 g4 g5
        go_wp2_with fail
        go_ret2
        exact ⟨_, _, ws', rfl, bgb Hb02.out Hg.out Hbl.out, Hs.out.below Hbl.out, HI.out.out Hpl.out hm (fun y => by rw [Hme.out, Hxd.out, Bool.true_and]), Ho5.out, fun g e => .inr (by
          rcases Hfr.out g e with h' | h'
          · cases h'
          · exact Nat.le_trans Hb02.out.size (Nat.le_trans Hg.out.size h'))⟩


  · have HH := has_any HA2.out x hx32
    rw [HI.out.has2 x] at HH
    have HHas := Lib.hid HH
    clear HH
    have hbb : (mem ws x == mem ws x) = true := by simp
    go_wp2_with fail
    refine HHas.out.mono ?_
    rintro e w3 ⟨rfl, rfl⟩
    go_wp2_with fail
    go_ret2
    exact ⟨_, l, ws, by simp, bgb Hb02.out (grownBy_refl _ _) (Below.refl _ _), HA2.out, HI.out, HO2.out, fun g e => .inl e⟩
  · have HH := len_any HA2.out
    rw [HI.out.1.len] at HH
    have HLen := Lib.hid HH
    clear HH
    have hbb : ((l.length : Int) == (l.length : Int)) = true := by simp
    go_wp2_with fail
    refine HLen.out.mono ?_
    rintro e w3 ⟨rfl, rfl⟩
    go_wp2_with fail
    go_ret2
    exact ⟨_, l, ws, by simp, bgb Hb02.out (grownBy_refl _ _) (Below.refl _ _), HA2.out, HI.out, HO2.out, fun g e => .inl e⟩
  · have HAll := Lib.hid (allwords_any HA2.out HT2.out HI.out (.slice al l.length cl) (Reads.own HO2.out Nat.one_pos) X)
    go_wp2_with fail
    refine HAll.out.mono ?_
    rintro e w3 ⟨rfl, hb3⟩
    have Hb3 := Lib.hid hb3
    clear hb3 HAll
    go_wp2_with fail
    go_ret2
    exact ⟨_, l, ws, rfl, bgb Hb02.out (grownBy_refl _ _) Hb3.out, HA2.out.below Hb3.out, HI.out, own_below HO2.out Hb3.out, fun g e => .inl e⟩
end Go.Proofs.YtofkamnmgpkehaaDoor
