import Derived.Test.YtdffaepbkecoeaaGreatE2
import Derived.Defers
import Derived.Recover
import Derived.Test.YtdffaepbkecoeaaGreatE1
import Derived.Laws.CopyOwn
import Derived.Deep.RegionLaw
import Derived.Deep.RegionHeld3
import Derived.Lib.ConvBytes
import Derived.Deep.DrawnRows
import Derived.Lib.SlBytesConst
import Derived.Laws.BitsAllLaws
import Derived.StillTailTactics
import Derived.ScopeJumps
import Derived.WalkMore
import Derived.ProofKit
import Derived.OpenShut
import Derived.Lib.SmallJoins
import Derived.Deep.Slices
import Derived.Deep.Fields
import Derived.ChangeSame
import Derived.SizedLaws
set_option maxRecDepth 100000
set_option maxHeartbeats 4000000
namespace Go.Proofs.YtdffaepbkecoeaaGreat
open Go.RowKit
def isDiv (o:Nat):Bool:=o == 42 || o == 43 || o == 44 || o == 45
def isBi (o:Nat):Bool:=o == 39 || o == 40 || o == 41 || o == 46 || o == 47 || o == 48 || o == 50 || o == 52 || o == 51 || o == 54 || o == 55 || o == 56 || o == 57
def biW (o a b:Nat):Nat :=
 if o=39 then w32 (a+b) else if o=40 then w32 (a - b) else if o=41 then w32 (a * b) else if o=42 then w32 (wrap32 ((wrap32 a).tdiv (wrap32 b))) else if o=44 then w32 ((wrap32 a).tmod (wrap32 b)) else if o=43 then w32 ((a:Int) / b) else if o=45 then a % b else if o=46 then (bits .and .u32 a b).toNat else if o=47 then (bits .or .u32 a b).toNat else if o=48 then (bits .xor .u32 a b).toNat else if o=50 then w32 (a * 2 ^ (b % 32)) else if o=52 then a / 2 ^ (b % 32) else if o=51 then w32 (wrap32 a / 2 ^ (b % 32)) else if o=54 then arithF .add a b else if o=55 then arithF .sub a b else if o=56 then arithF .mul a b else if o=57 then arithF .quo a b else 0
theorem bi39 (a b:Nat) (w:World):Calls Tryz.prog 162 #[.int .u8 39,.int .u32 a,.int .u32 b] w fun e w'=>e=.returned (.tuple #[.int .u32 (biW 39 a b:Nat),.int .i64 0])∧Below w.heap.size w w':=by
 have e1:biW 39 a b=w32 (a+b):=by simp [biW]
 rw [e1]
 clear e1
 have hw:=fun x=>w32_eq x
 go_enter Tryz.func162,Tryz.ntmps162
 go_wp2
 go_ret2
 exact ⟨rfl,Below.refl _ _⟩
theorem bi40 (a b:Nat) (w:World):Calls Tryz.prog 162 #[.int .u8 40,.int .u32 a,.int .u32 b] w fun e w'=>e=.returned (.tuple #[.int .u32 (biW 40 a b:Nat),.int .i64 0])∧Below w.heap.size w w':=by
 have e1:biW 40 a b=w32 (a - b):=by simp [biW]
 rw [e1]
 clear e1
 have hw:=fun x=>w32_eq x
 go_enter Tryz.func162,Tryz.ntmps162
 go_wp2
 go_ret2
 exact ⟨rfl,Below.refl _ _⟩
theorem bi41 (a b:Nat) (w:World):Calls Tryz.prog 162 #[.int .u8 41,.int .u32 a,.int .u32 b] w fun e w'=>e=.returned (.tuple #[.int .u32 (biW 41 a b:Nat),.int .i64 0])∧Below w.heap.size w w':=by
 have e1:biW 41 a b=w32 (a * b):=by simp [biW]
 rw [e1]
 clear e1
 have hw:=fun x=>w32_eq x
 go_enter Tryz.func162,Tryz.ntmps162
 go_wp2
 go_ret2
 exact ⟨rfl,Below.refl _ _⟩
theorem bi42 (a b:Nat) (hb:b<4294967296) (hb0:b≠0) (w:World):Calls Tryz.prog 162 #[.int .u8 42,.int .u32 a,.int .u32 b] w fun e w'=>e=.returned (.tuple #[.int .u32 (biW 42 a b:Nat),.int .i64 0])∧Below w.heap.size w w':=by
 have e1:biW 42 a b=w32 (wrap32 ((wrap32 a).tdiv (wrap32 b))):=by simp [biW]
 rw [e1]
 clear e1
 have hw:=fun x=>w32_eq x
 have hz:¬ wrap32 (b:Int)=0:=by unfold wrap32;omega
 go_enter Tryz.func162,Tryz.ntmps162
 go_wp2
 go_ret2
 exact ⟨rfl,Below.refl _ _⟩
theorem bi44 (a b:Nat) (hb:b<4294967296) (hb0:b≠0) (w:World):Calls Tryz.prog 162 #[.int .u8 44,.int .u32 a,.int .u32 b] w fun e w'=>e=.returned (.tuple #[.int .u32 (biW 44 a b:Nat),.int .i64 0])∧Below w.heap.size w w':=by
 have e1:biW 44 a b=w32 ((wrap32 a).tmod (wrap32 b)):=by simp [biW]
 rw [e1]
 clear e1
 have hw:=fun x=>w32_eq x
 have hz:¬ wrap32 (b:Int)=0:=by unfold wrap32;omega
 go_enter Tryz.func162,Tryz.ntmps162
 go_wp2
 go_ret2
 exact ⟨rfl,Below.refl _ _⟩
theorem bi43 (a b:Nat) (_hb:b<4294967296) (hb0:b≠0) (w:World):Calls Tryz.prog 162 #[.int .u8 43,.int .u32 a,.int .u32 b] w fun e w'=>e=.returned (.tuple #[.int .u32 (biW 43 a b:Nat),.int .i64 0])∧Below w.heap.size w w':=by
 have e1:biW 43 a b=w32 ((a:Int) / b):=by simp [biW]
 rw [e1]
 clear e1
 have hw:=fun x=>w32_eq x
 have hz:¬ (b:Int)=0:=by omega
 go_enter Tryz.func162,Tryz.ntmps162
 go_wp2
 go_ret2
 exact ⟨rfl,Below.refl _ _⟩
theorem bi45 (a b:Nat) (_hb:b<4294967296) (hb0:b≠0) (w:World):Calls Tryz.prog 162 #[.int .u8 45,.int .u32 a,.int .u32 b] w fun e w'=>e=.returned (.tuple #[.int .u32 (biW 45 a b:Nat),.int .i64 0])∧Below w.heap.size w w':=by
 have e1:biW 45 a b=a % b:=by simp [biW]
 rw [e1]
 clear e1
 have hw:=fun x=>w32_eq x
 have hz:¬ (b:Int)=0:=by omega
 go_enter Tryz.func162,Tryz.ntmps162
 go_wp2
 go_ret2
 exact ⟨by simp,Below.refl _ _⟩
theorem bi46 (a b:Nat) (w:World):Calls Tryz.prog 162 #[.int .u8 46,.int .u32 a,.int .u32 b] w fun e w'=>e=.returned (.tuple #[.int .u32 (biW 46 a b:Nat),.int .i64 0])∧Below w.heap.size w w':=by
 have e1:biW 46 a b=(bits .and .u32 a b).toNat:=by simp [biW]
 rw [e1]
 clear e1
 have hx:=bits_nat .and a b
 generalize (bits .and .u32 a b).toNat=t at *
 go_enter Tryz.func162,Tryz.ntmps162
 go_wp2
 go_ret2
 exact ⟨rfl,Below.refl _ _⟩
theorem bi47 (a b:Nat) (w:World):Calls Tryz.prog 162 #[.int .u8 47,.int .u32 a,.int .u32 b] w fun e w'=>e=.returned (.tuple #[.int .u32 (biW 47 a b:Nat),.int .i64 0])∧Below w.heap.size w w':=by
 have e1:biW 47 a b=(bits .or .u32 a b).toNat:=by simp [biW]
 rw [e1]
 clear e1
 have hx:=bits_nat .or a b
 generalize (bits .or .u32 a b).toNat=t at *
 go_enter Tryz.func162,Tryz.ntmps162
 go_wp2
 go_ret2
 exact ⟨rfl,Below.refl _ _⟩
theorem bi48 (a b:Nat) (w:World):Calls Tryz.prog 162 #[.int .u8 48,.int .u32 a,.int .u32 b] w fun e w'=>e=.returned (.tuple #[.int .u32 (biW 48 a b:Nat),.int .i64 0])∧Below w.heap.size w w':=by
 have e1:biW 48 a b=(bits .xor .u32 a b).toNat:=by simp [biW]
 rw [e1]
 clear e1
 have hx:=bits_nat .xor a b
 generalize (bits .xor .u32 a b).toNat=t at *
 go_enter Tryz.func162,Tryz.ntmps162
 go_wp2
 go_ret2
 exact ⟨rfl,Below.refl _ _⟩
theorem bi50 (a b:Nat) (w:World):Calls Tryz.prog 162 #[.int .u8 50,.int .u32 a,.int .u32 b] w fun e w'=>e=.returned (.tuple #[.int .u32 (biW 50 a b:Nat),.int .i64 0])∧Below w.heap.size w w':=by
 have e1:biW 50 a b=w32 (a * 2 ^ (b % 32)):=by simp [biW]
 rw [e1]
 clear e1
 have hw:=fun x=>w32_eq x
 go_enter Tryz.func162,Tryz.ntmps162
 go_wp2
 go_ret2
 exact ⟨rfl,Below.refl _ _⟩
theorem bi52 (a b:Nat) (w:World):Calls Tryz.prog 162 #[.int .u8 52,.int .u32 a,.int .u32 b] w fun e w'=>e=.returned (.tuple #[.int .u32 (biW 52 a b:Nat),.int .i64 0])∧Below w.heap.size w w':=by
 have e1:biW 52 a b=a / 2 ^ (b % 32):=by simp [biW]
 rw [e1]
 clear e1
 have hw:=fun x=>w32_eq x
 go_enter Tryz.func162,Tryz.ntmps162
 go_wp2
 go_ret2
 exact ⟨by simp,Below.refl _ _⟩
theorem bi51 (a b:Nat) (w:World):Calls Tryz.prog 162 #[.int .u8 51,.int .u32 a,.int .u32 b] w fun e w'=>e=.returned (.tuple #[.int .u32 (biW 51 a b:Nat),.int .i64 0])∧Below w.heap.size w w':=by
 have e1:biW 51 a b=w32 (wrap32 a / 2 ^ (b % 32)):=by simp [biW]
 rw [e1]
 clear e1
 have hw:=fun x=>w32_eq x
 go_enter Tryz.func162,Tryz.ntmps162
 go_wp2
 go_ret2
 exact ⟨rfl,Below.refl _ _⟩
theorem bi54 (a b:Nat) (w:World):Calls Tryz.prog 162 #[.int .u8 54,.int .u32 a,.int .u32 b] w fun e w'=>e=.returned (.tuple #[.int .u32 (biW 54 a b:Nat),.int .i64 0])∧Below w.heap.size w w':=by
 have e1:biW 54 a b=arithF .add a b:=by simp [biW]
 rw [e1]
 clear e1
 have H:=Lib.hid (fun W=>sum_any a b W)
 generalize arithF .add a b=t at *
 go_enter Tryz.func162,Tryz.ntmps162
 go_wp2_with (go_at_call 184;refine (H.out _).mono ?_;rintro e w1 ⟨rfl,hb1⟩)
 go_ret2
 exact ⟨rfl,hb1⟩
theorem bi55 (a b:Nat) (w:World):Calls Tryz.prog 162 #[.int .u8 55,.int .u32 a,.int .u32 b] w fun e w'=>e=.returned (.tuple #[.int .u32 (biW 55 a b:Nat),.int .i64 0])∧Below w.heap.size w w':=by
 have e1:biW 55 a b=arithF .sub a b:=by simp [biW]
 rw [e1]
 clear e1
 have H:=Lib.hid (fun W=>rest_any a b W)
 generalize arithF .sub a b=t at *
 go_enter Tryz.func162,Tryz.ntmps162
 go_wp2_with (go_at_call 185;refine (H.out _).mono ?_;rintro e w1 ⟨rfl,hb1⟩)
 go_ret2
 exact ⟨rfl,hb1⟩
theorem bi56 (a b:Nat) (w:World):Calls Tryz.prog 162 #[.int .u8 56,.int .u32 a,.int .u32 b] w fun e w'=>e=.returned (.tuple #[.int .u32 (biW 56 a b:Nat),.int .i64 0])∧Below w.heap.size w w':=by
 have e1:biW 56 a b=arithF .mul a b:=by simp [biW]
 rw [e1]
 clear e1
 have H:=Lib.hid (fun W=>product_any a b W)
 generalize arithF .mul a b=t at *
 go_enter Tryz.func162,Tryz.ntmps162
 go_wp2_with (go_at_call 186;refine (H.out _).mono ?_;rintro e w1 ⟨rfl,hb1⟩)
 go_ret2
 exact ⟨rfl,hb1⟩
theorem bi57 (a b:Nat) (w:World):Calls Tryz.prog 162 #[.int .u8 57,.int .u32 a,.int .u32 b] w fun e w'=>e=.returned (.tuple #[.int .u32 (biW 57 a b:Nat),.int .i64 0])∧Below w.heap.size w w':=by
 have e1:biW 57 a b=arithF .quo a b:=by simp [biW]
 rw [e1]
 clear e1
 have H:=Lib.hid (fun W=>ratio_any a b W)
 generalize arithF .quo a b=t at *
 go_enter Tryz.func162,Tryz.ntmps162
 go_wp2_with (go_at_call 187;refine (H.out _).mono ?_;rintro e w1 ⟨rfl,hb1⟩)
 go_ret2
 exact ⟨rfl,hb1⟩
theorem bi42_no (a:Nat) (w:World):Calls Tryz.prog 162 #[.int .u8 42,.int .u32 a,.int .u32 (0:Nat)] w fun e w'=>(∃ u pv,e=.panicked [{ v:=.iface u pv,recovered:=false }])∧Below w.heap.size w w':=by
 have hz:wrap32 ((0:Nat):Int)=0:=by unfold wrap32;decide
 go_enter Tryz.func162,Tryz.ntmps162
 go_wp2
 exact ⟨rfl,⟨_,_,rfl⟩,Below.refl _ _⟩
theorem bi44_no (a:Nat) (w:World):Calls Tryz.prog 162 #[.int .u8 44,.int .u32 a,.int .u32 (0:Nat)] w fun e w'=>(∃ u pv,e=.panicked [{ v:=.iface u pv,recovered:=false }])∧Below w.heap.size w w':=by
 have hz:wrap32 ((0:Nat):Int)=0:=by unfold wrap32;decide
 go_enter Tryz.func162,Tryz.ntmps162
 go_wp2
 exact ⟨rfl,⟨_,_,rfl⟩,Below.refl _ _⟩
theorem bi43_no (a:Nat) (w:World):Calls Tryz.prog 162 #[.int .u8 43,.int .u32 a,.int .u32 (0:Nat)] w fun e w'=>(∃ u pv,e=.panicked [{ v:=.iface u pv,recovered:=false }])∧Below w.heap.size w w':=by
 have hz:wrap32 ((0:Nat):Int)=0:=by unfold wrap32;decide
 go_enter Tryz.func162,Tryz.ntmps162
 go_wp2
 exact ⟨rfl,⟨_,_,rfl⟩,Below.refl _ _⟩
theorem bi45_no (a:Nat) (w:World):Calls Tryz.prog 162 #[.int .u8 45,.int .u32 a,.int .u32 (0:Nat)] w fun e w'=>(∃ u pv,e=.panicked [{ v:=.iface u pv,recovered:=false }])∧Below w.heap.size w w':=by
 have hz:wrap32 ((0:Nat):Int)=0:=by unfold wrap32;decide
 go_enter Tryz.func162,Tryz.ntmps162
 go_wp2
 exact ⟨rfl,⟨_,_,rfl⟩,Below.refl _ _⟩
theorem bi_un (o a b:Nat) (h:isBi o=false) (h2:isDiv o=false) (w:World):Calls Tryz.prog 162 #[.int .u8 o,.int .u32 a,.int .u32 b] w fun e w'=>e=.returned (.tuple #[.int .u32 (0:Nat),.int .i64 61])∧Below w.heap.size w w':=by
 simp only [isBi,isDiv,Bool.or_eq_false_iff,beq_eq_false_iff_ne] at h h2
 have k39:((o:Int) == 39)=false:=by simp;omega
 have k40:((o:Int) == 40)=false:=by simp;omega
 have k41:((o:Int) == 41)=false:=by simp;omega
 have k42:((o:Int) == 42)=false:=by simp;omega
 have k44:((o:Int) == 44)=false:=by simp;omega
 have k43:((o:Int) == 43)=false:=by simp;omega
 have k45:((o:Int) == 45)=false:=by simp;omega
 have k46:((o:Int) == 46)=false:=by simp;omega
 have k47:((o:Int) == 47)=false:=by simp;omega
 have k48:((o:Int) == 48)=false:=by simp;omega
 have k50:((o:Int) == 50)=false:=by simp;omega
 have k52:((o:Int) == 52)=false:=by simp;omega
 have k51:((o:Int) == 51)=false:=by simp;omega
 have k54:((o:Int) == 54)=false:=by simp;omega
 have k55:((o:Int) == 55)=false:=by simp;omega
 have k56:((o:Int) == 56)=false:=by simp;omega
 have k57:((o:Int) == 57)=false:=by simp;omega
 go_enter Tryz.func162,Tryz.ntmps162
 go_wp2
 go_ret2
 exact ⟨rfl,Below.refl _ _⟩
def biR (o a b:Nat):Nat×Nat:=if isBi o then (biW o a b,0) else if isDiv o then (if b=0 then (0,60) else (biW o a b,0)) else (0,61)
theorem bi_yes (o a b:Nat) (hb:b<4294967296) (h:¬ (isDiv o=true∧b=0)) (w:World):Calls Tryz.prog 162 #[.int .u8 o,.int .u32 a,.int .u32 b] w fun e w'=>e=.returned (.tuple #[.int .u32 (biR o a b).1,.int .i64 (biR o a b).2])∧Below w.heap.size w w':=by
 cases h1:isBi o with
 | true =>
  rw [show biR o a b=(biW o a b,0) from by unfold biR;rw [h1];rfl]
  simp only [isBi,Bool.or_eq_true,beq_iff_eq] at h1
  rcases h1 with (((((((((((rfl|rfl)|rfl)|rfl)|rfl)|rfl)|rfl)|rfl)|rfl)|rfl)|rfl)|rfl)|rfl
  ·exact bi39 a b w
  ·exact bi40 a b w
  ·exact bi41 a b w
  ·exact bi46 a b w
  ·exact bi47 a b w
  ·exact bi48 a b w
  ·exact bi50 a b w
  ·exact bi52 a b w
  ·exact bi51 a b w
  ·exact bi54 a b w
  ·exact bi55 a b w
  ·exact bi56 a b w
  ·exact bi57 a b w
 | false =>
  cases h2:isDiv o with
  | true =>
   have hb0:b≠0:=fun e=>h ⟨h2,e⟩
   rw [show biR o a b=(biW o a b,0) from by unfold biR;rw [h1,h2];simp [hb0]]
   simp only [isDiv,Bool.or_eq_true,beq_iff_eq] at h2
   rcases h2 with ((rfl|rfl)|rfl)|rfl
   ·exact bi42 a b hb hb0 w
   ·exact bi43 a b hb hb0 w
   ·exact bi44 a b hb hb0 w
   ·exact bi45 a b hb hb0 w
  | false =>
   rw [show biR o a b=(0,61) from by unfold biR;rw [h1,h2];rfl]
   exact bi_un o a b h1 h2 w
theorem bi_no (o a:Nat) (h:isDiv o=true) (w:World):Calls Tryz.prog 162 #[.int .u8 o,.int .u32 a,.int .u32 (0:Nat)] w fun e w'=>(∃ u pv,e=.panicked [{ v:=.iface u pv,recovered:=false }])∧Below w.heap.size w w':=by
 simp only [isDiv,Bool.or_eq_true,beq_iff_eq] at h
 rcases h with ((rfl|rfl)|rfl)|rfl
 ·exact bi42_no a w
 ·exact bi43_no a w
 ·exact bi44_no a w
 ·exact bi45_no a w
theorem catch_panicking (b c:Nat) (hpq:b≠c) (u:TypeId) (pv:Value) (older:List PanicEntry) (w:World) (hc:w.cell? ⟨b,0,none⟩=some (.int .u32 0)) (hz:w.frozen? ⟨b,0,none⟩=false) (hc2:w.cell? ⟨c,0,none⟩=some (.int .i64 0)) (hz2:w.frozen? ⟨c,0,none⟩=false) :
 CallsD Tryz.prog 161 #[.pointer (some ⟨b,0,none⟩),.pointer (some ⟨c,0,none⟩)] (.panicking ({ v:=.iface u pv,recovered:=false } :: older)) w fun e u' w' =>
  e=.returned (.tuple #[])∧u'=.panicking ({ v:=.iface u pv,recovered:=true } :: older)∧w'=(w.setCell ⟨b,0,none⟩ (.int .u32 0)).setCell ⟨c,0,none⟩ (.int .i64 60):=by
 have hq:(w.setCell ⟨b,0,none⟩ (.int .u32 0)).cell? ⟨c,0,none⟩=some (.int .i64 0):=by
  rw [World.cell?_of_block (Below.heap_setCell _ _ _ _ (Ne.symm hpq))];exact hc2
 have hqz:(w.setCell ⟨b,0,none⟩ (.int .u32 0)).frozen? ⟨c,0,none⟩=false:=by
  simp [go_sem,hz2]
 refine callsD_of_wpS Tryz.func161 rfl fun c₀ cs hu=>?_
 apply wpS_seq
 apply wpS_region
 simp [wpOpsS,go_sem,recoverD,hu,Tryz.ntmps161,Exit.thenS]
 refine wpS_cond (t:=true) (by simp [Act.eval,Array.replicate]) ?_
 simp only [if_true]
 apply wpS_region
 simp [wpOpsS,go_sem,hc,hz,hq,hqz,bodyPostS,results,Tryz.results161]
theorem catch_idle (p q:Addr) (w:World) :
 CallsD Tryz.prog 161 #[.pointer (some p),.pointer (some q)] .returning w fun e u' w'=>e=.returned (.tuple #[])∧u'=.returning∧w'=w:=by
 refine callsD_of_wpS Tryz.func161 rfl fun c₀ cs hu=>?_
 apply wpS_seq
 apply wpS_region
 simp [wpOpsS,go_sem,recoverD,hu,Tryz.ntmps161,Exit.thenS]
 refine wpS_cond (t:=false) (by simp [Act.eval,Array.replicate]) ?_
 simp only [Bool.false_eq_true,if_false]
 refine wpS_of_wp (wp_skip ?_)
 cases c₀
 simp_all [bodyPostS,results,Tryz.results161]
theorem isBi_div {o:Nat} (h:isDiv o=true):isBi o=false:=by
 simp only [isDiv,Bool.or_eq_true,beq_iff_eq] at h
 rcases h with ((rfl|rfl)|rfl)|rfl <;> rfl
theorem set2 {w w1:World} (h:Below w.heap.size w w1) (v u:Value):Below w.heap.size w ((w1.setCell ⟨w.heap.size,0,none⟩ v).setCell ⟨w.heap.size+1,0,none⟩ u) :=
 (h.setCell (p:=⟨w.heap.size,0,none⟩) (Nat.le_refl _) v).setCell (p:=⟨w.heap.size+1,0,none⟩) (Nat.le_succ _) u
theorem binary_any (o a b:Nat) (hb:b<4294967296) (w:World):Calls Tryz.prog 131 #[.int .u8 o,.int .u32 a,.int .u32 b] w fun e w'=>e=.returned (.tuple #[.int .u32 (biR o a b).1,.int .i64 (biR o a b).2])∧Below w.heap.size w w':=by
 have hmf:∀ (fn:Fn) (first cap:Array Value) (w:World),(Instr.makeFunc fn first cap).run Tryz.prog w=.ok (.func fn first cap) w:=fun _ _ _ _=>rfl
 by_cases h:isDiv o=true∧b=0
 ·obtain ⟨h1,rfl⟩:=h
  have H:=Lib.hid (fun W=>bi_no o a h1 W)
  go_enter_defers Tryz.func131,Tryz.ntmps131
  go_wp2_with fail
  refine (H.out _).mono ?_
  rintro e w1 ⟨⟨u,pv,rfl⟩,hb1⟩
  have c6:w1.cell? ⟨w.heap.size,0,none⟩=some (.int .u32 0):=(hb1.cell (p:=⟨w.heap.size,0,none⟩) (by simp;omega)).trans (by simp [go_sem])
  have c7:w1.cell? ⟨w.heap.size+1,0,none⟩=some (.int .i64 0):=(hb1.cell (p:=⟨w.heap.size+1,0,none⟩) (by simp)).trans (by simp [go_sem])
  have f6:w1.frozen? ⟨w.heap.size,0,none⟩=false:=(hb1.frozen (p:=⟨w.heap.size,0,none⟩) (by simp;omega)).trans (by simp [go_sem])
  have f7:w1.frozen? ⟨w.heap.size+1,0,none⟩=false:=(hb1.frozen (p:=⟨w.heap.size+1,0,none⟩) (by simp)).trans (by simp [go_sem])
  have HB:=Lib.hid (Bel.of (Bel.of hb1))
  clear hb1
  go_wp2
  refine leaves_cons (f:=161) (args:=#[.pointer (some ⟨w.heap.size,0,none⟩),.pointer (some ⟨w.heap.size+1,0,none⟩)]) (by simp) (by simp [go_sem]) ?_
  refine (catch_panicking w.heap.size (w.heap.size+1) (by omega) u pv [] w1 c6 f6 c7 f7).mono ?_
  rintro e u' w'' ⟨rfl,rfl,rfl⟩
  rw [show biR o a 0=(0,60) from by unfold biR;rw [isBi_div h1,h1];rfl]
  have hb3:=set2 HB.out (.int .u32 0) (.int .i64 60)
  simp [Leaves,settle,results,Tryz.results131,go_sem,c6,c7,hb3]
 ·have H:=Lib.hid (fun W=>bi_yes o a b hb h W)
  generalize (biR o a b).1=x at *
  generalize (biR o a b).2=y at *
  go_enter_defers Tryz.func131,Tryz.ntmps131
  go_wp2_with fail
  refine (H.out _).mono ?_
  rintro e w1 ⟨rfl,hb1⟩
  have c6:w1.cell? ⟨w.heap.size,0,none⟩=some (.int .u32 0):=(hb1.cell (p:=⟨w.heap.size,0,none⟩) (by simp;omega)).trans (by simp [go_sem])
  have c7:w1.cell? ⟨w.heap.size+1,0,none⟩=some (.int .i64 0):=(hb1.cell (p:=⟨w.heap.size+1,0,none⟩) (by simp)).trans (by simp [go_sem])
  have f6:w1.frozen? ⟨w.heap.size,0,none⟩=false:=(hb1.frozen (p:=⟨w.heap.size,0,none⟩) (by simp;omega)).trans (by simp [go_sem])
  have f7:w1.frozen? ⟨w.heap.size+1,0,none⟩=false:=(hb1.frozen (p:=⟨w.heap.size+1,0,none⟩) (by simp)).trans (by simp [go_sem])
  have HB:=Lib.hid (Bel.of (Bel.of hb1))
  clear hb1
  go_wp2
  refine leaves_cons (f:=161) (args:=#[.pointer (some ⟨w.heap.size,0,none⟩),.pointer (some ⟨w.heap.size+1,0,none⟩)]) (by simp) (by simp [go_sem]) ?_
  refine (catch_idle _ _ _).mono ?_
  rintro e u' w'' ⟨rfl,rfl,rfl⟩
  have hb3:=set2 HB.out (.int .u32 x) (.int .i64 y)
  simp [Leaves,settle,results,Tryz.results131,go_sem,c6,c7,hb3]
def isUn (o:Nat):Bool:=o == 36 || o == 37 || o == 38 || o == 49 || o == 53 || o == 58 || o == 59
def unW (o a:Nat):Nat :=
 if o=36 then w32 (IntKind.i8.wrap a) else if o=37 then w32 (IntKind.i16.wrap a) else if o=38 then w32 (-a) else if o=49 then (bits .xor .u32 IntKind.u32.max a).toNat else if o=53 then turnF a else if o=58 then wordF (floatOfInt .f32 (wrap32 a)) else if o=59 then w32 (towardF a) else 0
def unE (o:Nat):Nat:=if isUn o then 0 else 61
theorem un36 (a:Nat) (w:World):Calls Tryz.prog 129 #[.int .u8 36,.int .u32 a] w fun e w'=>e=.returned (.tuple #[.int .u32 (unW 36 a:Nat),.int .i64 (unE 36:Nat)])∧w'=w:=by
 have e1:unW 36 a=w32 (IntKind.i8.wrap a):=by simp [unW]
 have e2:unE 36=0:=by decide
 rw [e1,e2]
 clear e1 e2
 have hw:=fun x=>w32_eq x
 go_enter Tryz.func129,Tryz.ntmps129
 go_wp2
 go_ret2
 exact ⟨rfl,rfl⟩
theorem un37 (a:Nat) (w:World):Calls Tryz.prog 129 #[.int .u8 37,.int .u32 a] w fun e w'=>e=.returned (.tuple #[.int .u32 (unW 37 a:Nat),.int .i64 (unE 37:Nat)])∧w'=w:=by
 have e1:unW 37 a=w32 (IntKind.i16.wrap a):=by simp [unW]
 have e2:unE 37=0:=by decide
 rw [e1,e2]
 clear e1 e2
 have hw:=fun x=>w32_eq x
 go_enter Tryz.func129,Tryz.ntmps129
 go_wp2
 go_ret2
 exact ⟨rfl,rfl⟩
theorem un38 (a:Nat) (w:World):Calls Tryz.prog 129 #[.int .u8 38,.int .u32 a] w fun e w'=>e=.returned (.tuple #[.int .u32 (unW 38 a:Nat),.int .i64 (unE 38:Nat)])∧w'=w:=by
 have e1:unW 38 a=w32 (-a):=by simp [unW]
 have e2:unE 38=0:=by decide
 rw [e1,e2]
 clear e1 e2
 have hw:=fun x=>w32_eq x
 go_enter Tryz.func129,Tryz.ntmps129
 go_wp2
 go_ret2
 exact ⟨rfl,rfl⟩
theorem un49 (a:Nat) (w:World):Calls Tryz.prog 129 #[.int .u8 49,.int .u32 a] w fun e w'=>e=.returned (.tuple #[.int .u32 (unW 49 a:Nat),.int .i64 (unE 49:Nat)])∧w'=w:=by
 have e1:unW 49 a=(bits .xor .u32 IntKind.u32.max a).toNat:=by simp [unW]
 have e2:unE 49=0:=by decide
 rw [e1,e2]
 clear e1 e2
 have hx:=bits_nat .xor IntKind.u32.max a
 generalize (bits .xor .u32 IntKind.u32.max a).toNat=t at *
 go_enter Tryz.func129,Tryz.ntmps129
 go_wp2
 go_ret2
 exact ⟨rfl,rfl⟩
theorem un53 (a:Nat) (w:World):Calls Tryz.prog 129 #[.int .u8 53,.int .u32 a] w fun e w'=>e=.returned (.tuple #[.int .u32 (unW 53 a:Nat),.int .i64 (unE 53:Nat)])∧w'=w:=by
 have e1:unW 53 a=turnF a:=by simp [unW]
 have e2:unE 53=0:=by decide
 rw [e1,e2]
 clear e1 e2
 have hw:=fun x=>w32_eq x
 have H:=Lib.hid (fun W=>turned_any a W)
 generalize turnF a=t at *
 go_enter Tryz.func129,Tryz.ntmps129
 go_wp2_with (go_at_call 156;refine (H.out _).mono ?_;rintro e w1 ⟨rfl,hw1⟩;subst hw1)
 go_ret2
 exact ⟨rfl,rfl⟩
theorem un58 (a:Nat) (w:World):Calls Tryz.prog 129 #[.int .u8 58,.int .u32 a] w fun e w'=>e=.returned (.tuple #[.int .u32 (unW 58 a:Nat),.int .i64 (unE 58:Nat)])∧w'=w:=by
 have e1:unW 58 a=wordF (floatOfInt .f32 (wrap32 a)):=by simp [unW]
 have e2:unE 58=0:=by decide
 rw [e1,e2]
 clear e1 e2
 have hw:=fun x=>w32_eq x
 have H:=Lib.hid (fun W=>sof_any (wrap32 a) W)
 generalize wordF (floatOfInt .f32 (wrap32 a))=t at *
 go_enter Tryz.func129,Tryz.ntmps129
 go_wp2_with (go_at_call 157;refine (H.out _).mono ?_;rintro e w1 ⟨rfl,hw1⟩;subst hw1)
 go_ret2
 exact ⟨rfl,rfl⟩
theorem un59 (a:Nat) (w:World):Calls Tryz.prog 129 #[.int .u8 59,.int .u32 a] w fun e w'=>e=.returned (.tuple #[.int .u32 (unW 59 a:Nat),.int .i64 (unE 59:Nat)])∧w'=w:=by
 have e1:unW 59 a=w32 (towardF a):=by simp [unW]
 have e2:unE 59=0:=by decide
 rw [e1,e2]
 clear e1 e2
 have hw:=fun x=>w32_eq x
 have H:=Lib.hid (fun W=>toward_any a W)
 generalize towardF a=t at *
 go_enter Tryz.func129,Tryz.ntmps129
 go_wp2_with (go_at_call 158;refine (H.out _).mono ?_;rintro e w1 ⟨rfl,hw1⟩;subst hw1)
 go_ret2
 exact ⟨rfl,rfl⟩
theorem un_no (o a:Nat) (h:isUn o=false) (w:World):Calls Tryz.prog 129 #[.int .u8 o,.int .u32 a] w fun e w'=>e=.returned (.tuple #[.int .u32 (0:Nat),.int .i64 (61:Nat)])∧w'=w:=by
 simp only [isUn,Bool.or_eq_false_iff,beq_eq_false_iff_ne] at h
 have k36:((o:Int) == 36)=false:=by simp;omega
 have k37:((o:Int) == 37)=false:=by simp;omega
 have k38:((o:Int) == 38)=false:=by simp;omega
 have k49:((o:Int) == 49)=false:=by simp;omega
 have k53:((o:Int) == 53)=false:=by simp;omega
 have k58:((o:Int) == 58)=false:=by simp;omega
 have k59:((o:Int) == 59)=false:=by simp;omega
 go_enter Tryz.func129,Tryz.ntmps129
 go_wp2
 go_ret2
 exact ⟨rfl,rfl⟩
theorem unary_any (o a:Nat) (w:World):Calls Tryz.prog 129 #[.int .u8 o,.int .u32 a] w fun e w'=>e=.returned (.tuple #[.int .u32 (unW o a:Nat),.int .i64 (unE o:Nat)])∧w'=w:=by
 cases h:isUn o with
 | true =>
  simp only [isUn,Bool.or_eq_true,beq_iff_eq] at h
  rcases h with (((((rfl|rfl)|rfl)|rfl)|rfl)|rfl)|rfl
  ·exact un36 a w
  ·exact un37 a w
  ·exact un38 a w
  ·exact un49 a w
  ·exact un53 a w
  ·exact un58 a w
  ·exact un59 a w
 | false =>
  have e1:unW o a=0:=by
   simp only [isUn,Bool.or_eq_false_iff,beq_eq_false_iff_ne] at h
   unfold unW
   rw [if_neg (by omega),if_neg (by omega),if_neg (by omega),if_neg (by omega),if_neg (by omega),if_neg (by omega),if_neg (by omega)]
  have e2:unE o=61:=by unfold unE;rw [h];rfl
  rw [e1,e2]
  exact un_no o a h w
theorem beq_int (a b:Nat):((a:Int) == (b:Int))=(a == b):=by
 rw [Bool.eq_iff_iff,beq_iff_eq,beq_iff_eq];omega
theorem bne_int (a b:Nat):((a:Int) != (b:Int))=(a != b):=by unfold bne;rw [beq_int]
def floB (o s:Nat):Bool :=
 if o=23 then s == 3 else if o=24 then s != 3 else if o=25 then s == 2 else if o=26 then s == 2 || s == 3 else if o=27 then s == 4 else if o=28 then s == 4 || s == 3 else false
theorem flo23 (s:Nat) (h:s=1 ∨ s=2 ∨ s=3 ∨ s=4) (w:World):Calls Tryz.prog 159 #[.int .u8 23,.int .u8 s] w fun e w'=>e=.returned (.tuple #[.bool (floB 23 s),.int .i64 0])∧w'=w:=by
 rcases h with rfl|rfl|rfl|rfl
 all_goals
  go_enter Tryz.func159,Tryz.ntmps159
  go_wp2
  go_ret2
  exact ⟨rfl,rfl⟩
theorem flo24 (s:Nat) (h:s=1 ∨ s=2 ∨ s=3 ∨ s=4) (w:World):Calls Tryz.prog 159 #[.int .u8 24,.int .u8 s] w fun e w'=>e=.returned (.tuple #[.bool (floB 24 s),.int .i64 0])∧w'=w:=by
 rcases h with rfl|rfl|rfl|rfl
 all_goals
  go_enter Tryz.func159,Tryz.ntmps159
  go_wp2
  go_ret2
  exact ⟨rfl,rfl⟩
theorem flo25 (s:Nat) (h:s=1 ∨ s=2 ∨ s=3 ∨ s=4) (w:World):Calls Tryz.prog 159 #[.int .u8 25,.int .u8 s] w fun e w'=>e=.returned (.tuple #[.bool (floB 25 s),.int .i64 0])∧w'=w:=by
 rcases h with rfl|rfl|rfl|rfl
 all_goals
  go_enter Tryz.func159,Tryz.ntmps159
  go_wp2
  go_ret2
  exact ⟨rfl,rfl⟩
theorem flo26 (s:Nat) (h:s=1 ∨ s=2 ∨ s=3 ∨ s=4) (w:World):Calls Tryz.prog 159 #[.int .u8 26,.int .u8 s] w fun e w'=>e=.returned (.tuple #[.bool (floB 26 s),.int .i64 0])∧w'=w:=by
 rcases h with rfl|rfl|rfl|rfl
 all_goals
  go_enter Tryz.func159,Tryz.ntmps159
  go_wp2
  go_ret2
  exact ⟨rfl,rfl⟩
theorem flo27 (s:Nat) (h:s=1 ∨ s=2 ∨ s=3 ∨ s=4) (w:World):Calls Tryz.prog 159 #[.int .u8 27,.int .u8 s] w fun e w'=>e=.returned (.tuple #[.bool (floB 27 s),.int .i64 0])∧w'=w:=by
 rcases h with rfl|rfl|rfl|rfl
 all_goals
  go_enter Tryz.func159,Tryz.ntmps159
  go_wp2
  go_ret2
  exact ⟨rfl,rfl⟩
theorem flo28 (s:Nat) (h:s=1 ∨ s=2 ∨ s=3 ∨ s=4) (w:World):Calls Tryz.prog 159 #[.int .u8 28,.int .u8 s] w fun e w'=>e=.returned (.tuple #[.bool (floB 28 s),.int .i64 0])∧w'=w:=by
 rcases h with rfl|rfl|rfl|rfl
 all_goals
  go_enter Tryz.func159,Tryz.ntmps159
  go_wp2
  go_ret2
  exact ⟨rfl,rfl⟩
def hoB (o a b:Nat):Bool :=
 if o=13 then a == b else if o=14 then a != b else if o=15 then decide (wrap32 a<wrap32 b) else if o=16 then decide (wrap32 a≤wrap32 b) else if o=17 then decide (wrap32 b<wrap32 a) else if o=18 then decide (wrap32 b≤wrap32 a) else if o=19 then decide (a<b) else if o=20 then decide (a≤b) else if o=21 then decide (b<a) else if o=22 then decide (b≤a) else floB o (standF a b)
theorem ho13 (a b:Nat) (w:World):Calls Tryz.prog 130 #[.int .u8 13,.int .u32 a,.int .u32 b] w fun e w'=>e=.returned (.tuple #[.bool (hoB 13 a b),.int .i64 0])∧w'=w:=by
 have e1:hoB 13 a b=(a == b):=by simp [hoB]
 rw [e1]
 clear e1
 have hq:=beq_int a b
 go_enter Tryz.func130,Tryz.ntmps130
 go_wp2
 go_ret2
 exact ⟨rfl,rfl⟩
theorem ho14 (a b:Nat) (w:World):Calls Tryz.prog 130 #[.int .u8 14,.int .u32 a,.int .u32 b] w fun e w'=>e=.returned (.tuple #[.bool (hoB 14 a b),.int .i64 0])∧w'=w:=by
 have e1:hoB 14 a b=(a != b):=by simp [hoB]
 rw [e1]
 clear e1
 have hq:=bne_int a b
 go_enter Tryz.func130,Tryz.ntmps130
 go_wp2
 go_ret2
 exact ⟨rfl,rfl⟩
theorem ho15 (a b:Nat) (w:World):Calls Tryz.prog 130 #[.int .u8 15,.int .u32 a,.int .u32 b] w fun e w'=>e=.returned (.tuple #[.bool (hoB 15 a b),.int .i64 0])∧w'=w:=by
 have e1:hoB 15 a b=(decide (wrap32 a<wrap32 b)):=by simp [hoB]
 rw [e1]
 clear e1
 go_enter Tryz.func130,Tryz.ntmps130
 go_wp2
 go_ret2
 exact ⟨rfl,rfl⟩
theorem ho16 (a b:Nat) (w:World):Calls Tryz.prog 130 #[.int .u8 16,.int .u32 a,.int .u32 b] w fun e w'=>e=.returned (.tuple #[.bool (hoB 16 a b),.int .i64 0])∧w'=w:=by
 have e1:hoB 16 a b=(decide (wrap32 a≤wrap32 b)):=by simp [hoB]
 rw [e1]
 clear e1
 go_enter Tryz.func130,Tryz.ntmps130
 go_wp2
 go_ret2
 exact ⟨rfl,rfl⟩
theorem ho17 (a b:Nat) (w:World):Calls Tryz.prog 130 #[.int .u8 17,.int .u32 a,.int .u32 b] w fun e w'=>e=.returned (.tuple #[.bool (hoB 17 a b),.int .i64 0])∧w'=w:=by
 have e1:hoB 17 a b=(decide (wrap32 b<wrap32 a)):=by simp [hoB]
 rw [e1]
 clear e1
 go_enter Tryz.func130,Tryz.ntmps130
 go_wp2
 go_ret2
 exact ⟨rfl,rfl⟩
theorem ho18 (a b:Nat) (w:World):Calls Tryz.prog 130 #[.int .u8 18,.int .u32 a,.int .u32 b] w fun e w'=>e=.returned (.tuple #[.bool (hoB 18 a b),.int .i64 0])∧w'=w:=by
 have e1:hoB 18 a b=(decide (wrap32 b≤wrap32 a)):=by simp [hoB]
 rw [e1]
 clear e1
 go_enter Tryz.func130,Tryz.ntmps130
 go_wp2
 go_ret2
 exact ⟨rfl,rfl⟩
theorem ho19 (a b:Nat) (w:World):Calls Tryz.prog 130 #[.int .u8 19,.int .u32 a,.int .u32 b] w fun e w'=>e=.returned (.tuple #[.bool (hoB 19 a b),.int .i64 0])∧w'=w:=by
 have e1:hoB 19 a b=(decide (a<b)):=by simp [hoB]
 rw [e1]
 clear e1
 go_enter Tryz.func130,Tryz.ntmps130
 go_wp2
 go_ret2
 exact ⟨by simp,rfl⟩
theorem ho20 (a b:Nat) (w:World):Calls Tryz.prog 130 #[.int .u8 20,.int .u32 a,.int .u32 b] w fun e w'=>e=.returned (.tuple #[.bool (hoB 20 a b),.int .i64 0])∧w'=w:=by
 have e1:hoB 20 a b=(decide (a≤b)):=by simp [hoB]
 rw [e1]
 clear e1
 go_enter Tryz.func130,Tryz.ntmps130
 go_wp2
 go_ret2
 exact ⟨by simp,rfl⟩
theorem ho21 (a b:Nat) (w:World):Calls Tryz.prog 130 #[.int .u8 21,.int .u32 a,.int .u32 b] w fun e w'=>e=.returned (.tuple #[.bool (hoB 21 a b),.int .i64 0])∧w'=w:=by
 have e1:hoB 21 a b=(decide (b<a)):=by simp [hoB]
 rw [e1]
 clear e1
 go_enter Tryz.func130,Tryz.ntmps130
 go_wp2
 go_ret2
 exact ⟨by simp,rfl⟩
theorem ho22 (a b:Nat) (w:World):Calls Tryz.prog 130 #[.int .u8 22,.int .u32 a,.int .u32 b] w fun e w'=>e=.returned (.tuple #[.bool (hoB 22 a b),.int .i64 0])∧w'=w:=by
 have e1:hoB 22 a b=(decide (b≤a)):=by simp [hoB]
 rw [e1]
 clear e1
 go_enter Tryz.func130,Tryz.ntmps130
 go_wp2
 go_ret2
 exact ⟨by simp,rfl⟩
theorem ho23 (a b:Nat) (w:World):Calls Tryz.prog 130 #[.int .u8 23,.int .u32 a,.int .u32 b] w fun e w'=>e=.returned (.tuple #[.bool (hoB 23 a b),.int .i64 0])∧w'=w:=by
 have e1:hoB 23 a b=floB 23 (standF a b):=by simp [hoB]
 have hs:standF a b=1 ∨ standF a b=2 ∨ standF a b=3 ∨ standF a b=4:=by unfold standF;split <;> (try split) <;> (try split) <;> simp
 have H:=Lib.hid (fun W=>stand_any a b W)
 have H2:=Lib.hid (fun W=>flo23 _ hs W)
 rw [e1]
 clear e1 hs
 generalize standF a b=s at *
 generalize floB 23 s=t at *
 go_enter Tryz.func130,Tryz.ntmps130
 go_wp2_with (first|(go_at_call 160;refine (H.out _).mono ?_;rintro e w1 ⟨rfl,hw1⟩;subst hw1)|(go_at_call 159;refine (H2.out _).mono ?_;rintro e w1 ⟨rfl,hw1⟩;subst hw1))
 go_ret2
 exact ⟨rfl,rfl⟩
theorem ho24 (a b:Nat) (w:World):Calls Tryz.prog 130 #[.int .u8 24,.int .u32 a,.int .u32 b] w fun e w'=>e=.returned (.tuple #[.bool (hoB 24 a b),.int .i64 0])∧w'=w:=by
 have e1:hoB 24 a b=floB 24 (standF a b):=by simp [hoB]
 have hs:standF a b=1 ∨ standF a b=2 ∨ standF a b=3 ∨ standF a b=4:=by unfold standF;split <;> (try split) <;> (try split) <;> simp
 have H:=Lib.hid (fun W=>stand_any a b W)
 have H2:=Lib.hid (fun W=>flo24 _ hs W)
 rw [e1]
 clear e1 hs
 generalize standF a b=s at *
 generalize floB 24 s=t at *
 go_enter Tryz.func130,Tryz.ntmps130
 go_wp2_with (first|(go_at_call 160;refine (H.out _).mono ?_;rintro e w1 ⟨rfl,hw1⟩;subst hw1)|(go_at_call 159;refine (H2.out _).mono ?_;rintro e w1 ⟨rfl,hw1⟩;subst hw1))
 go_ret2
 exact ⟨rfl,rfl⟩
theorem ho25 (a b:Nat) (w:World):Calls Tryz.prog 130 #[.int .u8 25,.int .u32 a,.int .u32 b] w fun e w'=>e=.returned (.tuple #[.bool (hoB 25 a b),.int .i64 0])∧w'=w:=by
 have e1:hoB 25 a b=floB 25 (standF a b):=by simp [hoB]
 have hs:standF a b=1 ∨ standF a b=2 ∨ standF a b=3 ∨ standF a b=4:=by unfold standF;split <;> (try split) <;> (try split) <;> simp
 have H:=Lib.hid (fun W=>stand_any a b W)
 have H2:=Lib.hid (fun W=>flo25 _ hs W)
 rw [e1]
 clear e1 hs
 generalize standF a b=s at *
 generalize floB 25 s=t at *
 go_enter Tryz.func130,Tryz.ntmps130
 go_wp2_with (first|(go_at_call 160;refine (H.out _).mono ?_;rintro e w1 ⟨rfl,hw1⟩;subst hw1)|(go_at_call 159;refine (H2.out _).mono ?_;rintro e w1 ⟨rfl,hw1⟩;subst hw1))
 go_ret2
 exact ⟨rfl,rfl⟩
theorem ho26 (a b:Nat) (w:World):Calls Tryz.prog 130 #[.int .u8 26,.int .u32 a,.int .u32 b] w fun e w'=>e=.returned (.tuple #[.bool (hoB 26 a b),.int .i64 0])∧w'=w:=by
 have e1:hoB 26 a b=floB 26 (standF a b):=by simp [hoB]
 have hs:standF a b=1 ∨ standF a b=2 ∨ standF a b=3 ∨ standF a b=4:=by unfold standF;split <;> (try split) <;> (try split) <;> simp
 have H:=Lib.hid (fun W=>stand_any a b W)
 have H2:=Lib.hid (fun W=>flo26 _ hs W)
 rw [e1]
 clear e1 hs
 generalize standF a b=s at *
 generalize floB 26 s=t at *
 go_enter Tryz.func130,Tryz.ntmps130
 go_wp2_with (first|(go_at_call 160;refine (H.out _).mono ?_;rintro e w1 ⟨rfl,hw1⟩;subst hw1)|(go_at_call 159;refine (H2.out _).mono ?_;rintro e w1 ⟨rfl,hw1⟩;subst hw1))
 go_ret2
 exact ⟨rfl,rfl⟩
theorem ho27 (a b:Nat) (w:World):Calls Tryz.prog 130 #[.int .u8 27,.int .u32 a,.int .u32 b] w fun e w'=>e=.returned (.tuple #[.bool (hoB 27 a b),.int .i64 0])∧w'=w:=by
 have e1:hoB 27 a b=floB 27 (standF a b):=by simp [hoB]
 have hs:standF a b=1 ∨ standF a b=2 ∨ standF a b=3 ∨ standF a b=4:=by unfold standF;split <;> (try split) <;> (try split) <;> simp
 have H:=Lib.hid (fun W=>stand_any a b W)
 have H2:=Lib.hid (fun W=>flo27 _ hs W)
 rw [e1]
 clear e1 hs
 generalize standF a b=s at *
 generalize floB 27 s=t at *
 go_enter Tryz.func130,Tryz.ntmps130
 go_wp2_with (first|(go_at_call 160;refine (H.out _).mono ?_;rintro e w1 ⟨rfl,hw1⟩;subst hw1)|(go_at_call 159;refine (H2.out _).mono ?_;rintro e w1 ⟨rfl,hw1⟩;subst hw1))
 go_ret2
 exact ⟨rfl,rfl⟩
theorem ho28 (a b:Nat) (w:World):Calls Tryz.prog 130 #[.int .u8 28,.int .u32 a,.int .u32 b] w fun e w'=>e=.returned (.tuple #[.bool (hoB 28 a b),.int .i64 0])∧w'=w:=by
 have e1:hoB 28 a b=floB 28 (standF a b):=by simp [hoB]
 have hs:standF a b=1 ∨ standF a b=2 ∨ standF a b=3 ∨ standF a b=4:=by unfold standF;split <;> (try split) <;> (try split) <;> simp
 have H:=Lib.hid (fun W=>stand_any a b W)
 have H2:=Lib.hid (fun W=>flo28 _ hs W)
 rw [e1]
 clear e1 hs
 generalize standF a b=s at *
 generalize floB 28 s=t at *
 go_enter Tryz.func130,Tryz.ntmps130
 go_wp2_with (first|(go_at_call 160;refine (H.out _).mono ?_;rintro e w1 ⟨rfl,hw1⟩;subst hw1)|(go_at_call 159;refine (H2.out _).mono ?_;rintro e w1 ⟨rfl,hw1⟩;subst hw1))
 go_ret2
 exact ⟨rfl,rfl⟩
theorem holds_any (o a b:Nat) (h1:13≤o) (h2:o≤28) (w:World):Calls Tryz.prog 130 #[.int .u8 o,.int .u32 a,.int .u32 b] w fun e w'=>e=.returned (.tuple #[.bool (hoB o a b),.int .i64 0])∧w'=w:=by
 have:o=13 ∨ o=14 ∨ o=15 ∨ o=16 ∨ o=17 ∨ o=18 ∨ o=19 ∨ o=20 ∨ o=21 ∨ o=22 ∨ o=23 ∨ o=24 ∨ o=25 ∨ o=26 ∨ o=27 ∨ o=28:=by omega
 rcases this with rfl|rfl|rfl|rfl|rfl|rfl|rfl|rfl|rfl|rfl|rfl|rfl|rfl|rfl|rfl|rfl
 ·exact ho13 a b w
 ·exact ho14 a b w
 ·exact ho15 a b w
 ·exact ho16 a b w
 ·exact ho17 a b w
 ·exact ho18 a b w
 ·exact ho19 a b w
 ·exact ho20 a b w
 ·exact ho21 a b w
 ·exact ho22 a b w
 ·exact ho23 a b w
 ·exact ho24 a b w
 ·exact ho25 a b w
 ·exact ho26 a b w
 ·exact ho27 a b w
 ·exact ho28 a b w
set_option linter.unusedVariables false
structure Mo where
 im:Img
 D:List Int
 ms:List Int
 k:Nat
def Mo.code (m:Mo):List (Nat×Nat):=m.im.code
def Mo.n (m:Mo):Nat:=m.im.code.length
def Mo.ps (m:Mo):List (Nat×Nat×Nat):=psTo m.im.code m.im.code.length
def Mo.ofs (m:Mo):List Nat:=ofTo m.im.code m.im.code.length
def Mo.size (m:Mo):Nat:=2 ^ m.k
def Mo.depth (m:Mo) (i:Nat):Int:=if i<m.D.length then m.D.getD i (-1) else -1
def Mo.need (m:Mo) (i:Nat):Int:=if i<m.ofs.length then m.ms.getD (m.ofs.getD i 0) 0 else 0
def Mo.begins (m:Mo) (i:Nat):Bool:=beginsN m.ps m.ofs i
def Mo.legal (m:Mo) (x y:Nat):Bool:=decide (y ∈ nextN m.im.code m.im.js x)
def Mo.back (m:Mo) (i:Nat):Bool:=decide (0<i) && (decide (0≤m.depth (i - 1)) && decide (opAt m.im.code (i - 1)=5))
structure Mo.Ok (m:Mo):Prop where
 f:FindOk m.im.code m.im.js []
 d:FlowOk m.im.code m.im.js m.D m.ms
 s:stackN m.im.stack=true
 k8:8≤m.k
 k16:m.k≤16
 r:roomN m.im≤2 ^ m.k
def Mo.room (m:Mo) (words at_:Nat):Bool:=decide (0≤m.depth at_) && (decide (m.depth at_≤words) && decide ((words:Int) - m.depth at_+m.need at_≤64))
def Mo.top (m:Mo):Nat:=2 ^ m.k - 64
def Mo.fits (m:Mo) (s:St):Bool :=
 decide (s.data.length=2 ^ m.k) && (decide (s.sp % 4=0) && (decide (2 ^ m.k - m.im.stack≤s.sp) && (decide (s.sp≤m.top) && (decide (s.life≠2→s.value=0) && (decide (s.life≠3→s.fault=0) &&
 (if s.life=0 then decide (s.pc=0) && (decide (s.sp=m.top) && decide (s.ops.length=0))
  else if s.life=3 then decide (1≤s.fault) && (decide (s.fault≤8) && m.room s.ops.length s.pc)
  else if s.life=1 then m.room s.ops.length s.pc
  else if s.life=2 then decide (0≤m.depth s.pc) && (decide (opAt m.im.code s.pc=4) && decide ((s.ops.length:Int)+m.need s.pc≤64))
  else false))))))
def byteAt (d:List Nat) (a:Nat):Nat:=d.getD (a % d.length) 0
def loadN (d:List Nat) (a:Nat):Nat→Nat
 | 0=>0
 | n+1=>loadN d a n+byteAt d (a+n) * 256 ^ n
def putN (d:List Nat) (a x:Nat):List Nat:=d.set (a % d.length) x
def storeN (d:List Nat) (a v:Nat):Nat→List Nat
 | 0=>d
 | n+1=>putN (storeN d a v n) (a+n) (v / 256 ^ n % 256)
def bytesN (d:List Nat) (a n:Nat):List Nat:=(List.range n).map fun i=>byteAt d (a+i)
def writeTo (d:List Nat) (a:Nat) (b:List Nat):Nat→List Nat
 | 0=>d
 | n+1=>putN (writeTo d a b n) (a+n) (b.getD n 0)
def writeN (d:List Nat) (a:Nat) (b:List Nat):List Nat:=writeTo d a b b.length
def touN (size a n:Nat) (w:Bool):List (Nat×Bool):=(List.range n).map fun i=>((a+i) % size,w)
structure Ev where
 at_:Nat
 num:Nat
 args:List Nat
 val:Nat
structure Rep where
 val:Nat
 ws:List (Nat×List Nat)
def grantedN (gr:List (Nat×Int)) (x:Nat):Option Int:=(gr.find? fun g=>g.1 == x).map (·.2)
def wordsM (d:List Nat) (sp n:Nat):List Nat:=(List.range n).map fun i=>loadN d ((sp+4+4 * i) % 4294967296) 4
def wordsT (size sp n:Nat):List (Nat×Bool):=(List.range n).flatMap fun i=>touN size ((sp+4+4 * i) % 4294967296) 4 false
def applyN (d:List Nat) (ws:List (Nat×List Nat)):List Nat:=ws.foldl (fun d w=>writeN d w.1 w.2) d
def applyT (size:Nat) (ws:List (Nat×List Nat)):List (Nat×Bool):=ws.flatMap fun w=>touN size w.1 w.2.length true
def topW (s:St) (i:Nat):Nat:=s.ops.getD (s.ops.length - 1 - i) 0
def St.flt (s:St) (f:Nat):St:={ s with life:=3,fault:=f }
def St.drops (s:St) (i:Nat):List Nat:=s.ops.take (s.ops.length - i)
def isUnOp (o:Nat):Bool:=o == 36 || o == 37 || o == 38 || o == 49 || o == 53 || o == 58 || o == 59
def leaveM (m:Mo) (a:Nat) (s:St):St×List (Nat×Bool) :=
 if m.top<(s.sp+a) % 4294967296 then (s.flt 6,[])
 else if loadN s.data ((s.sp+a) % 4294967296) 4=4294967295 then ({ s with life:=2,value:=topW s 0,sp:=(s.sp+a) % 4294967296,ops:=s.drops 1 },touN m.size ((s.sp+a) % 4294967296) 4 false)
 else if m.back (loadN s.data ((s.sp+a) % 4294967296) 4)=false ∨ (s.ops.length:Int)<m.depth (loadN s.data ((s.sp+a) % 4294967296) 4) then (s.flt 7,touN m.size ((s.sp+a) % 4294967296) 4 false)
 else if 64<(s.ops.length:Int) - m.depth (loadN s.data ((s.sp+a) % 4294967296) 4)+m.need (loadN s.data ((s.sp+a) % 4294967296) 4) then (s.flt 5,touN m.size ((s.sp+a) % 4294967296) 4 false)
 else ({ s with sp:=(s.sp+a) % 4294967296,pc:=loadN s.data ((s.sp+a) % 4294967296) 4 },touN m.size ((s.sp+a) % 4294967296) 4 false)
def callM (m:Mo) (s:St):St×List (Nat×Bool) :=
 if m.begins (topW s 0)=false then (s.flt 4,[])
 else if 64<(s.ops.length:Int) - 1+m.need (topW s 0) then (s.flt 5,[])
 else ({ s with ops:=s.drops 1,data:=storeN s.data s.sp (s.pc+1) 4,pc:=topW s 0 },touN m.size s.sp 4 true)
def actM (m:Mo) (o a:Nat) (s:St):St×List (Nat×Bool) :=
 if o=1 then ({ s with pc:=s.pc+1 },[])
 else if o=2 then (s.flt 1,[])
 else if o=3 then (if s.sp<2 ^ m.k - m.im.stack+a then (s.flt 6,[]) else ({ s with sp:=s.sp - a,pc:=s.pc+1 },[]))
 else if o=4 then leaveM m a s
 else if o=5 then callM m s
 else if o=6 then ({ s with pc:=a },[])
 else if o=7 then (if m.legal s.pc (topW s 0) then ({ s with pc:=topW s 0,ops:=s.drops 1 },[]) else (s.flt 3,[]))
 else if o=8 then ({ s with ops:=s.ops++[a],pc:=s.pc+1 },[])
 else if o=9 then ({ s with ops:=s.ops++[(s.sp+a) % 4294967296],pc:=s.pc+1 },[])
 else if o=10 then ({ s with ops:=s.drops 1,pc:=s.pc+1 },[])
 else if o=11 then ({ s with ops:=s.ops++[topW s 0],pc:=s.pc+1 },[])
 else if o=12 then ({ s with ops:=s.drops 1,data:=storeN s.data ((s.sp+4+4 * a) % 4294967296) (topW s 0) 4,pc:=s.pc+1 },touN m.size ((s.sp+4+4 * a) % 4294967296) 4 true)
 else if o≤28 then ({ s with ops:=s.drops 2,pc:=if hoB o (topW s 1) (topW s 0) then a else s.pc+1 },[])
 else if o≤31 then ({ s with ops:=s.drops 1++[loadN s.data (topW s 0) (2 ^ (o - 29))],pc:=s.pc+1 },touN m.size (topW s 0) (2 ^ (o - 29)) false)
 else if o≤34 then ({ s with ops:=s.drops 2,data:=storeN s.data (topW s 1) (topW s 0) (2 ^ (o - 32)),pc:=s.pc+1 },touN m.size (topW s 1) (2 ^ (o - 32)) true)
 else if o=35 then ({ s with ops:=s.drops 2,data:=writeN s.data (topW s 1) (bytesN s.data (topW s 0) a),pc:=s.pc+1 },touN m.size (topW s 0) a false++touN m.size (topW s 1) a true)
 else if isUnOp o then ({ s with ops:=s.drops 1++[unW o (topW s 0)],pc:=s.pc+1 },[])
 else if (biR o (topW s 1) (topW s 0)).2≠0 then (s.flt 2,[])
 else ({ s with ops:=s.drops 2++[(biR o (topW s 1) (topW s 0)).1],pc:=s.pc+1 },[])
def sysM (m:Mo) (s:St):Option Nat:=if opAt m.im.code s.pc=5∧2147483648≤topW s 0 then some (4294967295 - topW s 0) else none
def waitsM (m:Mo) (gr:List (Nat×Int)) (reps:List Rep) (s:St):Option Ev :=
 match sysM m s,reps with
 | some x,[]=>(grantedN gr x).map fun n=>⟨s.pc,x,wordsM s.data s.sp n.toNat,0⟩
 | _,_=>none
structure Stp where
 st:St
 tou:List (Nat×Bool)
 ev:List Ev
 reps:List Rep
def stepM (m:Mo) (gr:List (Nat×Int)) (reps:List Rep) (s:St):Stp :=
 match sysM m s with
 | none=>⟨(actM m (opAt m.im.code s.pc) (argAt m.im.code s.pc) s).1,(actM m (opAt m.im.code s.pc) (argAt m.im.code s.pc) s).2,[],reps⟩
 | some x=>match grantedN gr x,reps with
  | some n,r :: rs=>⟨{ s with data:=applyN s.data r.ws,ops:=s.drops 1++[r.val],pc:=s.pc+1 },wordsT m.size s.sp n.toNat++applyT m.size r.ws,[⟨s.pc,x,wordsM s.data s.sp n.toNat,r.val⟩],rs⟩
  | _,_=>⟨s.flt 8,[],[],reps⟩
structure GoR where
 st:St
 tou:List (Nat×Bool)
 ev:List Ev
 reps:List Rep
 used:Nat
 ask:Option Ev
def GoR.behind (p:Stp) (r:GoR):GoR:=⟨r.st,p.tou++r.tou,p.ev++r.ev,r.reps,r.used+1,r.ask⟩
def goM (m:Mo) (gr:List (Nat×Int)):Nat→List Rep→St→GoR
 | 0,reps,s=>⟨s,[],[],reps,0,if s.life=1 then waitsM m gr reps s else none⟩
 | f+1,reps,s =>
  if s.life=1∧waitsM m gr reps s=none then GoR.behind (stepM m gr reps s) (goM m gr f (stepM m gr reps s).reps (stepM m gr reps s).st)
  else ⟨s,[],[],reps,0,if s.life=1 then waitsM m gr reps s else none⟩
theorem width8_any (w:World):Calls Tryz.prog 173 #[] w fun e w'=>e=.returned (.int .i64 1)∧w=w':=by
 have hx:bits BinOp.xor .u8 IntKind.u8.max 0=255:=by kernel_rfl
 go_enter Tryz.func173,Tryz.ntmps173
 go_wp2
 refine wp_loop_rounds 2 ?_
 rw [rounds_succ]
 go_wp2
 rw [rounds_succ]
 go_wp2
 go_ret
 exact ⟨rfl,rfl⟩
theorem lay8_any (v:Value) (n:Nat) (xs:List Value) (x:Nat) (hx:x<256) (w:World) (hown:w.ownsRow 0 5 1 v n xs) (hn:n+1≤140737488355328) :
 Calls Tryz.prog 146 #[v,.int .u8 x] w fun e w'=>∃ v',e=.returned v'∧w'.ownsRow 0 5 1 v' (n+1) (xs++[.int .u8 x])∧Grew w w' v v':=by
 obtain ⟨i0,hi,hz0,hz1,hz2⟩:=info_parts info5
 go_enter Tryz.func146,Tryz.ntmps146
 go_wp2_with fail
 refine (width8_any _).mono ?_
 rintro e w1 ⟨rfl,rfl⟩
 go_wp2_with fail
 go_loopw [0,7] (fun u i wr=>∃ k:Nat,k≤1∧i=.int .i64 k∧wr.ownsRow 0 5 1 u (n+k) (xs++[Value.int .u8 x].take k)∧Grew w wr v u) (fun _ i _=>1 - (intOf i).toNat)
 case atStart=>exact ⟨0,by omega,rfl,by simpa using hown,Grew.refl _ _⟩
 case round =>
  obtain ⟨k,hk,rfl,hr,hg⟩:=hrel
  by_cases hlt:k<1
  ·obtain rfl:k=0:=by omega
   simp only [Nat.add_zero,List.take_zero,List.append_nil] at hr
   go_wp2_with ((with_reducible refine wpList_append1 (o:=⟨some 18,.call { callee:=.builtin .append,args:=#[.tmp 10,.tmp 17],argTypes:=#[24,24] },_,_,_,none⟩) rfl _ _ 24 rfl 5 i0 (.int .u8 0) 1 1 Tryz.underlying24 hi hz0 hz1 hz2 ?_ ?_ _ _ _ hr _ _ ?_ ?_ ?_ ?_ ?_ ?_ ?_);rfl;decide;rfl;rfl;rfl;(simp [Value.oneCell']);(unfold maxLen;omega);omega;intro g c w1 hr1 hg1 hl1)
   go_roundw
   case rel=>exact ⟨1,by omega,by go_num,by simpa using hr1,hg.trans hg1⟩
   case measure=>simp [intOf]
  ·have:k=1:=by omega
   subst this
   go_wp2
   go_ret
   exact ⟨_,rfl,by simpa using hr,hg⟩
theorem put8_any (a:Option Addr) (cap:Nat) (l:List Nat) (hl:∀ i ∈ l,i<256) (w:World) (hr:Reads w 1 (.slice a l.length cap) l.length (encN .u8 l)) (hn:l.length+4≤140737488355328) :
 Calls Tryz.prog 113 #[.slice a l.length cap] w fun e w'=>∃ v',e=.returned v'∧w'.ownsRow 0 5 1 v' l.length (encN .u8 l)∧Grew w w' (.slice none 0 0) v':=by
 obtain ⟨a',cap',hv,hlen,hnc,hm,hnil,hp⟩:=hr
 simp only [Value.slice.injEq,true_and] at hv
 obtain ⟨rfl,rfl⟩:=hv
 have hcell:∀ k,k<l.length→∃ b off,a=some ⟨b,off,none⟩∧b<w.heap.size∧w.cell? ⟨b,off+k,none⟩=some (.int .u8 (l.getD k 0:Nat)):=by
  intro k hk
  obtain ⟨b,off,e,hlt,hc⟩:=hp (by omega)
  exact ⟨b,off,e,hlt,by rw [hc k (by rw [encN_length];exact hk),encN_at _ l k hk]⟩
 have Hcell:=Lib.hid hcell
 clear hp hnil hcell hlen
 go_enter Tryz.func113,Tryz.ntmps113
 go_wp2_with fail
 go_loopw [3,8] (fun u i wr=>∃ k:Nat,k≤l.length∧i=.int .i64 k∧wr.ownsRow 0 5 1 u k (encN .u8 (l.take k))∧Grew w wr (.slice none 0 0) u) (fun _ i _=>l.length - (intOf i).toNat)
 case atStart=>exact ⟨0,by omega,rfl,World.ownsRow_nil _ _ _ _,Grew.refl _ _⟩
 case round =>
  obtain ⟨k,hk,rfl,hr,hg⟩:=hrel
  by_cases hlt:k<l.length
  ·obtain ⟨b,off,rfl,hbl,hc⟩:=Hcell.out k hlt
   have hc2:wr.cell? ⟨b,off+k,none⟩=some (.int .u8 (l.getD k 0:Nat)):=((Grew.bel hg).cell (p:=⟨b,off+k,none⟩) hbl).trans hc
   have hx:l.getD k 0<256:=by
    rw [List.getD_eq_getElem?_getD,List.getElem?_eq_getElem hlt];exact hl _ (List.getElem_mem hlt)
   have hs:encN .u8 (l.take (k+1))=encN .u8 (l.take k)++[.int .u8 (l.getD k 0:Nat)]:=by
    rw [List.take_add_one,List.getElem?_eq_getElem hlt,encN_append,List.getD_eq_getElem?_getD,List.getElem?_eq_getElem hlt];rfl
   have Hs:=Lib.hid hs
   clear hs hc
   generalize l.getD k 0=x at hc2 hx Hs
   have h60:=lay8_any u3 k (encN .u8 (l.take k)) x hx wr hr (by omega)
   go_wp2_with fail
   refine h60.mono ?_
   rintro e w1 ⟨v',rfl,hr1,hg1⟩
   clear h60
   go_wp2
   go_roundw
   case rel=>exact ⟨k+1,by omega,by go_num,by rw [Hs.out];exact hr1,hg.trans hg1⟩
   case measure=>simp [intOf];omega
  ·have:k=l.length:=by omega
   subst this
   rw [List.take_length] at hr
   go_wp2
   go_ret
   exact ⟨_,rfl,hr,hg⟩
theorem sumTo_take {l:List Nat} {k:Nat} (hk:k<l.length):sumTo (l.take (k+1)) (1,0)=(((sumTo (l.take k) (1,0)).1+l.getD k 0) % 65521,((sumTo (l.take k) (1,0)).2+((sumTo (l.take k) (1,0)).1+l.getD k 0) % 65521) % 65521):=by
 rw [List.take_add_one,List.getElem?_eq_getElem hk,List.getD_eq_getElem?_getD,List.getElem?_eq_getElem hk]
 exact sumTo_snoc _ _ _
theorem sum_bytes (v:Value) (l:List Nat) (w:World) (hv:Bytes w v l) :
 Calls Tryz.prog 62 #[v] w fun e w'=>e=.returned (.int .u32 (sumN l))∧w=w':=by
 obtain ⟨a,cap,rfl,hlc,hcm,hnil,hp⟩:=hv.opened
 have hm:l.length≤9223372036854775807:=by unfold maxLen at hcm;omega
 have hlt:=hv.lt
 have Hp:=Lib.hid hp
 have Hl:=Lib.hid hlt
 have HS:=Lib.hid (show sumN l=(sumTo l (1,0)).2 * 65536+(sumTo l (1,0)).1 from rfl)
 clear hp hv hlt hnil
 go_enter Tryz.func62,Tryz.ntmps62
 go_wp2_with fail
 go_loop [3,4,9] (fun lo hi i=>∃ (k x y:Nat),k≤l.length∧i=.int .i64 k∧lo=.int .u32 x∧hi=.int .u32 y∧x<65521∧y<65521∧sumTo (l.take k) (1,0)=(x,y)) (fun _ _ i=>l.length - (intOf i).toNat)
 case atStart=>exact ⟨0,1,0,by omega,rfl,rfl,rfl,by decide,by decide,rfl⟩
 case round =>
  obtain ⟨k,x,y,hk,rfl,rfl,rfl,hx,hy,hs⟩:=hrel
  have Hs:=Lib.hid hs
  clear hs
  by_cases hlt:k<l.length
  ·obtain ⟨b,off,rfl,hbl,hc⟩:=Hp.out (by omega)
   have hcc:=hc k hlt
   have hz:=Hl.out k
   have Hn:=Lib.hid (sumTo_take hlt)
   generalize l.getD k 0=z at *
   clear hc
   have hki:(k:Int)<(l.length:Int):=by omega
   have hk0:(0:Int)≤(k:Int):=by omega
   go_wp2_with fail
   go_round
   case rel=>exact ⟨k+1,(x+z) % 65521,(y+(x+z) % 65521) % 65521,by omega,by go_num,by go_num,by go_num,Nat.mod_lt _ (by decide),Nat.mod_lt _ (by decide),by rw [Hn.out,Hs.out]⟩
   case measure=>simp [intOf];omega
  ·obtain rfl:k=l.length:=by omega
   have hsh:bits BinOp.xor .u32 0 0=0:=by kernel_rfl
   go_wp2
   go_ret
   refine ⟨?_,rfl⟩
   rw [HS.out]
   have h2:=Hs.out
   rw [List.take_length] at h2
   rw [h2]
   go_num
def byN (s:ByteArray):List Nat:=s.data.toList.map (·.toNat)
def nameB (n:ByteArray×Nat):List Nat:=le4 n.2++([n.1.size % 256]++byN n.1)
def namesB (lx:List (ByteArray×Nat)):List Nat:=lx.flatMap nameB
def withN (b:List Nat) (at_ x:Nat):List Nat:=b.take at_++(le4 x++b.drop (at_+4))
theorem withN_length {b:List Nat} {at_ x:Nat} (h:at_+4≤b.length):(withN b at_ x).length=b.length:=by
 simp only [withN,List.length_append,List.length_take,List.length_drop,le4_length];omega
def partsI (m:Img):List (List Nat):=[encode m.code,le4s m.js,m.data,namesB m.lx]
def spansL:Nat→List Nat→List (Nat×Nat)
 | _,[]=>[]
 | a,n :: l=>(a,n) :: spansL (a+n) l
def headI (m:Img):List Nat:=[80,69,78,33]++le4s [1,0,m.code.length]
def rawI (m:Img):List Nat:=headI m++((spansL 64 ((partsI m).map List.length)).flatMap (fun s=>le4s [s.1,s.2])++(le4s [m.zero,m.stack,0,0]++(partsI m).flatMap id))
def sealedN (b:List Nat):List Nat:=withN (withN b 8 0) 8 (sumN (withN b 8 0))
def imgB (m:Img):List Nat:=sealedN (rawI m)
def digN (m:Img):Nat:=sumN (imgB m) * 4294967296+(imgB m).length
theorem cloneC_any (u:Value) (n:Nat) (cs:List Value) (hn:n≤140737488355328) (hone:∀ x ∈ cs,x.oneCell'=true) (w:World) (hu:Reads w 1 u n cs) :
 Calls Tryz.prog 175 #[u] w fun e w'=>∃ v,e=.returned v∧w'.ownsRow w.heap.size 5 1 v n cs∧Below w.heap.size w w':=by
 obtain ⟨i0,hi,hz0,hz1,hz2⟩:=info_parts info5
 have hb:=run_bs24_0'
 have qn:∀ (w:World) (a:Option Addr) (n c n' c':Nat),(binOp .eql 24 (.slice a n c) (.slice none n' c')).run Tryz.prog w=.ok (.bool a.isNone) w:=fun w a n c n' c'=>Lib.run_eql_slice_nil w _ _ a n c n' c' Tryz.underlying24
 obtain ⟨a,cap,rfl,h1,h2,h3,hnn,hp⟩:=hu
 cases a with
 | none =>
  obtain rfl:=hnn rfl
  obtain rfl:n=0:=by omega
  obtain rfl:cs=[]:=List.eq_nil_of_length_eq_zero (by omega)
  clear hp hnn h1
  go_enter Tryz.func175,Tryz.ntmps175
  go_wp2
  exact bodyPost_ret (v:=.slice none 0 0) (by simp [results,Tryz.results175,go_sem]) rfl ⟨_,rfl,World.ownsRow_nil _ _ _ _,Below.refl _ _⟩
 | some ad =>
  have Hu:=Lib.hid (show Reads (w.alloc (.cells #[] 5)) 1 (.slice (some ad) n cap) n cs from Reads.below ⟨some ad,cap,rfl,h1,h2,h3,hnn,hp⟩ (Bel.new _ _))
  have Hone:=Lib.hid hone
  have Hoe:=Lib.hid (own_empty w 5 1)
  clear hp hnn h1 hone
  go_enter Tryz.func175,Tryz.ntmps175
  go_wp2_with ((with_reducible refine wpList_append_reads (o:=⟨some 7,.call { callee:=.builtin .append,args:=#[.tmp 5,.tmp 6],argTypes:=#[24,24] },_,_,_,none⟩) rfl _ _ 24 rfl 5 i0 (.int .u8 0) 1 1 Tryz.underlying24 hi hz0 hz1 hz2 ?_ ?_ _ 0 [] ?_ Hoe.out _ n cs ?_ Hu.out Hone.out ?_ ?_ ?_);rfl;decide;rfl;rfl;(unfold maxLen;omega);omega;intro v1 w1 o1 g1)
  have hx:w1.ownsRow w.heap.size 5 1 v1 n cs:=by
   have:=own_from o1 (B:=w.heap.size) (fun g e=>by
    rcases g1.2 g e with h'|h'
    ·cases h';exact Nat.le_refl _
    ·simp at h';omega)
   simpa using this
  have hbw:Below w.heap.size w w1:=(Bel.new w (.cells #[] 5)).grown g1.1 (by simp) (fun g e=>by cases e;exact Nat.le_refl _)
  exact bodyPost_ret (v:=v1) (by simp [results,Tryz.results175,go_sem]) rfl ⟨_,rfl,hx,hbw⟩
theorem run_append_make (n:Nat) (h0:0<n) (hn:n≤140737488355328) (ty:TypeId) (w:World) :
 (Builtin.append_ #[24,3] ty #[.slice none 0 0,.int .i64 n]).run Tryz.prog w =
  .ok (.slice (some ⟨w.heap.size,0,none⟩) n (grownCap w n 0 5)) (w.drew.alloc (.cells (Builtin.zeroCells #[.int .u8 0] n++Builtin.zeroCells #[.int .u8 0] (grownCap w n 0 5 - n)) 5)):=by
 obtain ⟨i0,hi,hz0,hz1,hz2⟩:=info_parts info5
 have hw:IntKind.i64.wrap (n:Int)=(n:Int):=IntWalk.i64_in _ (by omega)
 have hne:n≠0:=by omega
 have h63':¬ (9223372036854775807<(n:Int)):=by omega
 have h48':¬ (281474976710656<Builtin.nextslicecap n 0):=by rw [nextslicecap_zero h0];omega
 have h48i:¬ (281474976710656<(n:Int)):=by omega
 have hneg:¬ ((n:Int)<0):=by omega
 simp [Builtin.append_,run_underlying Tryz.underlying24,run_underlying Tryz.underlying3,sizeOf,typeInfo,zeroValue,hi,hz0,hz1,hz2,asInt,asIntOf,hw,hne,hneg,h63',h48',h48i,Question.forced,run_firstCells_none,newRow,grownCap,Value.cells]
theorem wpList_append_run {P:Program} {w w':World} {ops:Array Oper} {rest:List Oper} {o:Oper} {a:Act} {Q:Exit→Act→World→Prop} (hgd:o.guard=none) (p q:Operand) (ts:Array TypeId)
 (ho:o.op=.call { callee:=.builtin .append,args:=#[p,q],argTypes:=ts }) (x y v:Value) (hp:a.eval p=x) (hq:a.eval q=y) (hr:(Builtin.append_ ts o.type #[x,y]).run P w=.ok v w')
 (h:wpList P ops Q rest (a.put o.dst v) w'):wpList P ops Q (o :: rest) a w:=by
 refine wpList_plain hgd fun K hK=>?_
 unfold Oper.wp
 simp only [execOp,ho,resolve,invoke,builtin,Sem.run_bind,Sem.run_pure,Result.andThen_ok,List.map_toArray,List.map_cons,List.map_nil,hp,hq,hr]
 exact hK _ _ h
theorem growB_any (n:Nat) (hn:n≤140737488355328) (w:World) :
 Calls Tryz.prog 144 #[.slice none 0 0,.int .i64 n] w fun e w'=>∃ v,e=.returned v∧w'.ownsRow w.heap.size 5 1 v 0 []∧Below w.heap.size w w':=by
 by_cases h0:n=0
 ·subst h0
  go_enter Tryz.func144,Tryz.ntmps144
  go_wp2
  go_ret
  exact ⟨_,rfl,World.ownsRow_nil _ _ _ _,Below.refl _ _⟩
 ·have hr:=fun ty=>run_append_make n (by omega) hn ty w
  have hge:=grownCap_ge w n 0 5
  have hcm:grownCap w n 0 5≤maxLen:=grownCap_le_maxLen w n 0 5 (by unfold maxLen;omega)
  have hzs:(Builtin.zeroCells #[.int .u8 0] n++Builtin.zeroCells #[.int .u8 0] (grownCap w n 0 5 - n):Array Value).size=grownCap w n 0 5 * 1:=by
   simp [size_zeroCells];omega
  generalize (Builtin.zeroCells #[.int .u8 0] n++Builtin.zeroCells #[.int .u8 0] (grownCap w n 0 5 - n):Array Value)=cur at *
  generalize grownCap w n 0 5=cap at *
  have hpos:(0:Int)<(n:Int):=by omega
  have hneg:¬ (n:Int)<0:=by omega
  have HO:=Lib.hid (show (w.drew.alloc (.cells cur 5)).ownsRow w.heap.size 5 1 (.slice (some ⟨w.heap.size,0,none⟩) 0 cap) 0 [] from
   ⟨rfl,.inr ⟨w.heap.size,cap,cur,rfl,Nat.le_refl _,heap_alloc_new w.drew _,Nat.zero_le _,hcm,hzs,rfl⟩⟩)
  have HB:=Lib.hid (show Below w.heap.size w (w.drew.alloc (.cells cur 5)) from ((Below.refl _ w).drew).alloc (Nat.le_refl _) _)
  have hcn:(0:Int)≤(cap:Int):=by omega
  have HR:=Lib.hid hr
  clear hzs hr
  go_enter Tryz.func144,Tryz.ntmps144
  go_wp2_with ((with_reducible refine wpList_append_run (o:=⟨some 22,.call { callee:=.builtin .append,args:=#[.tmp 20,.tmp 21],argTypes:=#[24,3] },_,_,_,none⟩) rfl _ _ #[24,3] rfl _ _ _ ?_ ?_ (HR.out _) ?_);rfl;rfl)
  go_ret
  exact ⟨_,rfl,HO.out,HB.out⟩
theorem getD_flat (ls:List (List Nat)) (k:Nat) (hk:k<ls.length):(ls.take (k+1)).flatten=(ls.take k).flatten++ls.getD k []:=by
 rw [List.take_add_one,List.getElem?_eq_getElem hk,List.flatten_append,List.getD_eq_getElem?_getD,List.getElem?_eq_getElem hk]
 simp
structure ListsB (w:World) (q:Nat) (vs:List Value) (ls:List (List Nat)):Prop where
 hl:vs.length=ls.length
 hq:q<w.heap.size
 hc:∀ j,j<vs.length→w.cell? ⟨q,j,none⟩=vs[j]?
 hb:∀ (j:Nat) (v:Value),vs[j]?=some v→Bytes w v (ls.getD j [])
theorem ListsB.below {w w':World} {q:Nat} {vs:List Value} {ls:List (List Nat)} (h:ListsB w q vs ls) (hb:Below w.heap.size w w'):ListsB w' q vs ls :=
 ⟨h.hl,Nat.lt_of_lt_of_le h.hq hb.size,fun j hj=>(hb.cell (p:=⟨q,j,none⟩) h.hq).trans (h.hc j hj),fun j v hv=>(h.hb j v hv).below hb⟩
theorem flat_le (ls:List (List Nat)) (k:Nat):(ls.take k).flatten.length≤ls.flatten.length:=by
 have:=List.take_append_drop k ls
 have h2:=congrArg (fun l=>l.flatten.length) this
 simp only [List.flatten_append,List.length_append] at h2
 omega
theorem concat_any (q n c:Nat) (vs:List Value) (ls:List (List Nat)) (hn:n=ls.length) (hn2:n≤1000) (ht:ls.flatten.length≤100000000) (w:World) (h:ListsB w q vs ls) :
 Calls Tryz.prog 111 #[.slice (some ⟨q,0,none⟩) n c] w fun e w'=>∃ v,e=.returned v∧w'.ownsRow w.heap.size 5 1 v ls.flatten.length (encN .u8 ls.flatten)∧Below w.heap.size w w':=by
 obtain ⟨i0,hi,hz0,hz1,hz2⟩:=info_parts info5
 have H:=Lib.hid h
 have hvl:vs.length=n:=by rw [h.hl,hn]
 clear h
 have Hn:=Lib.hid hn
 have Hv:=Lib.hid hvl
 have Ht:=Lib.hid ht
 clear hn hvl ht
 go_enter Tryz.func111,Tryz.ntmps111
 go_wp2_with fail
 go_loop [3,11] (fun s i=>∃ k:Nat,k≤n∧i=.int .i64 k∧s=.int .i64 ((ls.take k).flatten.length:Nat)) (fun _ i=>n - (intOf i).toNat)
 case atStart=>exact ⟨0,by omega,rfl,rfl⟩
 case round =>
  obtain ⟨k,hk,rfl,rfl⟩:=hrel
  by_cases hlt:k<n
  ·obtain ⟨v,hv⟩:∃ v,vs[k]?=some v:=⟨_,List.getElem?_eq_getElem (by rw [Hv.out];exact hlt)⟩
   have hc:=(H.out.hc k (by rw [Hv.out];exact hlt)).trans hv
   obtain ⟨a,cp,rfl,-⟩:=(H.out.hb k v hv).1
   have Hf:=Lib.hid (getD_flat ls k (by rw [← Hn.out];exact hlt))
   have hle:=flat_le ls (k+1)
   have hsum:(ls.take (k+1)).flatten.length=(ls.take k).flatten.length+(ls.getD k []).length:=by rw [Hf.out,List.length_append]
   have htt:=Ht.out
   have Hs:=Lib.hid hsum
   have hb:(ls.take k).flatten.length+(ls.getD k []).length≤100000000:=by omega
   clear hsum hle htt hv
   generalize (ls.take k).flatten.length=t at *
   generalize (ls.getD k []).length=m at *
   have hki:(k:Int)<(n:Int):=by omega
   have hk0:(0:Int)≤(k:Int):=by omega
   have hneg:¬ ((t:Int)+(m:Int)<0):=by omega
   go_wp2_with fail
   go_round
   case rel=>exact ⟨k+1,by omega,by go_num,by rw [Hs.out];go_num⟩
   case measure=>simp [intOf];omega
  ·obtain rfl:k=n:=by omega
   have hfull:(ls.take k).flatten.length=ls.flatten.length:=by rw [Hn.out,List.take_length]
   rw [hfull]
   have htt:=Ht.out
   have HG:=Lib.hid (growB_any ls.flatten.length (by omega) w)
   have Htot:=Lib.hid hfull
   clear hfull
   generalize ls.flatten.length=tot at *
   go_wp2_with fail
   refine HG.out.mono ?_
   rintro e w1 ⟨v0,rfl,ho0,hb1⟩
   have HO0:=Lib.hid ho0
   have HB1:=Lib.hid hb1
   have H1:=Lib.hid (H.out.below hb1)
   have hs1:=hb1.size
   clear ho0 hb1 HG
   go_wp2_with fail
   go_loopw [6,27] (fun u i wr=>∃ j:Nat,j≤k∧i=.int .i64 j∧wr.ownsRow w.heap.size 5 1 u (ls.take j).flatten.length (encN .u8 (ls.take j).flatten)∧Below w.heap.size w wr∧ListsB wr q vs ls) (fun _ i _=>k - (intOf i).toNat)
   case atStart=>exact ⟨0,by omega,rfl,by simpa [encN] using HO0.out,HB1.out,H1.out⟩
   case round =>
    obtain ⟨j,hj,rfl,ho,hb,hL⟩:=hrel
    have HO:=Lib.hid ho
    have HB:=Lib.hid hb
    have HL:=Lib.hid hL
    clear ho hb hL
    by_cases hlt2:j<k
    ·obtain ⟨v,hv⟩:∃ v,vs[j]?=some v:=⟨_,List.getElem?_eq_getElem (by rw [Hv.out];exact hlt2)⟩
     have hc:=(HL.out.hc j (by rw [Hv.out];exact hlt2)).trans hv
     have Hb:=Lib.hid ((HL.out.hb j v hv).1)
     obtain ⟨a,cp,rfl,-⟩:=(HL.out.hb j v hv).1
     have Hf:=Lib.hid (getD_flat ls j (by rw [← Hn.out];exact hlt2))
     have hle:=flat_le ls (j+1)
     have hsum:(ls.take (j+1)).flatten.length=(ls.take j).flatten.length+(ls.getD j []).length:=by rw [Hf.out,List.length_append]
     have hbd:(ls.take j).flatten.length+(ls.getD j []).length≤100000000:=by have:=Htot.out;rw [Hn.out,List.take_length] at this;omega
     have HOo:=Lib.hid (own_base HO.out)
     have Hone:=Lib.hid (encN_one .u8 (ls.getD j []))
     clear hle hsum hv
     have hki:(j:Int)<(k:Int):=by omega
     have hk0:(0:Int)≤(j:Int):=by omega
     go_wp2_with ((with_reducible refine wpList_append_reads (o:=⟨some 33,.call { callee:=.builtin .append,args:=#[.tmp 31,.tmp 32],argTypes:=#[24,24] },_,_,_,none⟩) rfl _ _ 24 rfl 5 i0 (.int .u8 0) 1 1 Tryz.underlying24 hi hz0 hz1 hz2 ?_ ?_ _ _ _ ?_ HOo.out _ _ _ ?_ Hb.out Hone.out ?_ ?_ ?_);rfl;decide;rfl;rfl;(unfold maxLen;omega);omega;intro v3 w3 o3 g3)
     go_roundw
     case rel=>exact ⟨j+1,by omega,by go_num,by
      rw [Hf.out,encN_append,List.length_append]
      exact own_from o3 (fun g e=>by
       rcases g3.2 g e with h'|h'
       ·exact (HO.out.lt g h').1
       ·have:=HB.out.size;omega),HB.out.grown g3.1 HB.out.size (fun g e=>(HO.out.lt g e).1),by
      have hbw:Below w.heap.size w w3:=HB.out.grown g3.1 HB.out.size (fun g e=>(HO.out.lt g e).1)
      exact H.out.below hbw⟩
     case measure=>simp [intOf];omega
    ·obtain rfl:j=k:=by omega
     have hfull:(ls.take j).flatten=ls.flatten:=by rw [Hn.out,List.take_length]
     have HO2:=Lib.hid (show wr.ownsRow w.heap.size 5 1 u6 ls.flatten.length (encN .u8 ls.flatten) from by rw [← hfull];exact HO.out)
     clear hfull
     go_wp2_with fail
     go_ret
     exact ⟨_,rfl,HO2.out,HB.out⟩
theorem has32_any (a:Option Addr) (n c i:Nat) (hn:n≤9223372036854775807) (w:World) :
 Calls Tryz.prog 174 #[.slice a n c,.int .i64 i] w fun e w'=>e=.returned (.bool (decide (i+4≤n)))∧w=w':=by
 have h0:(0:Int)≤(i:Int):=by omega
 have hd:decide ((0:Int)≤(i:Int))=true:=decide_eq_true h0
 go_enter Tryz.func174,Tryz.ntmps174
 go_wp2_with ((with_reducible refine (width_any _).mono ?_);rintro e w1 ⟨rfl,rfl⟩)
 all_goals
  go_ret
  exact ⟨ret_boolE (by rw [Bool.eq_iff_iff];simp;omega),rfl⟩
theorem own_cur {W:World} {B e g n c:Nat} {xs:List Value} (h:W.ownsRow B e 1 (.slice (some ⟨g,0,none⟩) n c) n xs) :
 ∃ cur:List Value,W.heap[g]?=some (.cells cur.toArray e (0,0))∧cur.length=c∧n≤c∧c≤maxLen∧cur.take n=xs∧B≤g:=by
 obtain ⟨hl,⟨h,_⟩|⟨g',cap,cur,hv,hb,hg,hn,hm,hcs,ht⟩⟩:=h
 ·cases h
 ·cases hv
  exact ⟨cur.toList,by simpa using hg,by simpa using hcs,hn,hm,by simpa using ht,hb⟩
theorem splice_take {cur cs:List Value} {n off:Nat} (h:off+cs.length≤n) (hn:n≤cur.length):(splice cur off cs).take n=splice (cur.take n) off cs:=by
 refine List.ext_getElem? fun j=>?_
 unfold splice
 rw [List.getElem?_take]
 have l1:(cur.take off).length=off:=by rw [List.length_take];omega
 have l2:((cur.take n).take off).length=off:=by rw [List.length_take,List.length_take];omega
 by_cases hj:j<n
 ·rw [if_pos hj]
  by_cases c1:j<off
  ·rw [List.getElem?_append_left (by omega),List.getElem?_append_left (by omega),List.getElem?_take,List.getElem?_take,List.getElem?_take,if_pos c1,if_pos c1,if_pos hj]
  ·rw [List.getElem?_append_right (l₁:=cur.take off) (by omega),List.getElem?_append_right (l₁:=(cur.take n).take off) (by omega),l1,l2]
   by_cases c2:j - off<cs.length
   ·rw [List.getElem?_append_left c2,List.getElem?_append_left c2]
   ·rw [List.getElem?_append_right (l₂:=cur.drop (off+cs.length)) (by omega),List.getElem?_append_right (l₂:=(cur.take n).drop (off+cs.length)) (by omega),List.getElem?_drop,List.getElem?_drop,List.getElem?_take,if_pos (by omega)]
 ·rw [if_neg hj,List.getElem?_eq_none]
  simp only [List.length_append,List.length_drop,List.length_take];omega
theorem own_splice {W':World} {B e g n c:Nat} {xs cs cur:List Value} {off:Nat} (hl:xs.length=n) (hc:cur.length=c) (hnc:n≤c) (hcm:c≤maxLen) (ht:cur.take n=xs) (hB:B≤g)
 (hg:W'.heap[g]?=some (.cells (splice cur off cs).toArray e (0,0))) (h:off+cs.length≤n):W'.ownsRow B e 1 (.slice (some ⟨g,0,none⟩) n c) n (splice xs off cs):=by
 have h1:=splice_take h (by omega:n≤cur.length)
 rw [ht] at h1
 refine ⟨?_,.inr ⟨g,c,_,rfl,hB,hg,hnc,hcm,?_,?_⟩⟩
 ·unfold splice;simp only [List.length_append,List.length_take,List.length_drop];omega
 ·unfold splice;simp only [List.size_toArray,List.length_append,List.length_take,List.length_drop];omega
 ·rw [Nat.mul_one];simpa using h1
theorem with_splice (b:List Nat) (at_ x:Nat):splice (encN .u8 b) at_ (encN .u8 (le4 x))=encN .u8 (withN b at_ x):=by
 unfold splice withN
 rw [encN_append,encN_append,encN_length,le4_length]
 simp [encN,List.map_take,List.map_drop]
theorem with_any (v:Value) (b:List Nat) (i x:Nat) (hx:x<4294967296) (hi:i+4≤b.length) (hn:b.length≤140737488355328) (w:World) (hv:Bytes w v b) :
 Calls Tryz.prog 147 #[v,.int .i64 i,.int .u32 x] w fun e w'=>∃ u,e=.returned (.tuple #[u,.int .i64 0])∧w'.ownsRow w.heap.size 5 1 u (withN b i x).length (encN .u8 (withN b i x))∧Below w.heap.size w w':=by
 have hsz5:(Tryz.prog.info? 5).map (·.size)=some 1:=by kernel_rfl
 have HC:=Lib.hid (fun W hW=>cloneC_any v b.length (encN .u8 b) (by omega) (encN_one .u8 b) W hW)
 have HV:=Lib.hid hv
 obtain ⟨a,c,rfl,-,hnc,hcm,-,-⟩:=hv.1
 have hn9:b.length≤9223372036854775807:=by omega
 have Hh:=Lib.hid (fun W=>has32_any a b.length c i hn9 W)
 clear hn9
 have hd:decide (i+4≤b.length)=true:=decide_eq_true hi
 rw [hd] at Hh
 have Hone:=Lib.hid (encN_one .u8 (le4 x))
 clear hd hv
 go_enter Tryz.func147,Tryz.ntmps147
 go_wp2_with fail
 refine (Hh.out _).mono ?_
 rintro e w1 ⟨rfl,rfl⟩
 go_wp2_with fail
 refine (HC.out _ HV.out.1).mono ?_
 rintro e w1 ⟨u,rfl,ho,hb⟩
 obtain ⟨a2,c2,rfl,-,-,hp⟩:=own_sl ho
 obtain ⟨g,rfl,hg,-⟩:=hp (by omega)
 have HO:=Lib.hid ho
 have HB:=Lib.hid hb
 have hi0:(0:Int)≤(i:Int):=by omega
 have hi1:(i:Int)≤(b.length:Int):=by omega
 clear ho hb hp HC Hh
 go_wp2_with fail
 have HL:=Lib.hid (fun W=>lay_any (.slice none 0 0) 0 [] x hx W (World.ownsRow_nil _ _ _ _) (by omega))
 have HR:=Lib.hid (Below.refl w1.heap.size w1)
 obtain ⟨cur,q1,q2,q3,q4,q5,q6⟩:=own_cur HO.out
 have HQ:=Lib.hid q1
 have HQ5:=Lib.hid q5
 have hcl:i+(encN .u8 (le4 x)).length≤cur.length:=by rw [encN_length,le4_length];omega
 have HCL:=Lib.hid hcl
 have HMin:=Lib.hid (show (encN .u8 (le4 x)).length=Nat.min 4 (b.length - i) from by rw [encN_length,le4_length];exact (Nat.min_eq_left (by omega)).symm)
 clear q1 q5 hcl
 go_region_held3 (fun w'=>Below w.heap.size w w')
  (first|exact HB.out.drew|exact HB.out|assumption)
  (first
   | (go_at_call 145;refine (HL.out _).mono ?_;rintro e w' ⟨v4,rfl,o4,g4⟩;have hS4:=Bel.tr HR.out.drew g4.bel;have hS5:=Bel.tr HB.out hS4;obtain ⟨g4',c4,rfl,hc4a,hc4b,hg4,hx4⟩:=own_form o4 (by decide);have HX4:=Lib.hid hx4;have HG4:=Lib.hid ((hS4.block g hg).trans HQ.out);clear hx4)
   | (refine step_copy_splice rfl (.tmp 17) (.tmp 19) 24 24 rfl 5 Tryz.underlying24 hsz5 (some ⟨g,i,none⟩) (some ⟨g4',0,none⟩) (b.length - i) (c2 - i) (0+4) c4 (by simp [Act.eval]) (by simp [Act.eval]) g i cur 5 HG4.out (encN .u8 (le4 x)) HMin.out (fun _=>⟨rfl,_,rfl,fun j v hj=>by rw [Addr.add_mid,Nat.zero_add,HX4.out j (by simpa using (List.getElem?_eq_some_iff.1 hj).1)];simpa using hj⟩) HCL.out Hone.out w.heap.size w (Bel.tr HB.out hS4) q6 ?_;intro w5 hg5 hb5))
 have HF:=Lib.hid (show w5.ownsRow w.heap.size 5 1 (.slice (some ⟨g,0,none⟩) b.length c2) (withN b i x).length (encN .u8 (withN b i x)) from by
  rw [← with_splice,withN_length hi]
  exact own_splice (by rw [encN_length]) q2 q3 q4 HQ5.out q6 hg5.out (by rw [encN_length,le4_length];exact hi))
 have HB5:=Lib.hid (show Below w.heap.size w w5 from hb5)
 go_wp2
 go_ret2
 exact ⟨_,rfl,HF.out,HB5.out⟩
theorem own_bytes {w:World} {B n:Nat} {v:Value} {b:List Nat} (h:w.ownsRow B 5 1 v n (encN .u8 b)) (hb:∀ x ∈ b,x<256):Bytes w v b:=by
 have hl:n=b.length:=by have:=h.1;rw [encN_length] at this;omega
 subst hl
 exact ⟨Reads.own (own_base h) (by decide),hb⟩
theorem le4_lt (x:Nat):∀ y ∈ le4 x,y<256:=by
 intro y hy
 simp only [le4,List.mem_cons,List.not_mem_nil,or_false] at hy
 rcases hy with rfl|rfl|rfl|rfl <;> exact Nat.mod_lt _ (by decide)
theorem withN_lt {b:List Nat} (h:∀ y ∈ b,y<256) (i x:Nat):∀ y ∈ withN b i x,y<256:=by
 intro y hy
 unfold withN at hy
 rcases List.mem_append.1 hy with hy|hy
 ·exact h y (List.mem_of_mem_take hy)
 ·rcases List.mem_append.1 hy with hy|hy
  ·exact le4_lt x y hy
  ·exact h y (List.mem_of_mem_drop hy)
theorem sealed_any (v:Value) (b:List Nat) (hb:12≤b.length) (hn:b.length≤100000000) (w:World) (hv:Bytes w v b) :
 Calls Tryz.prog 115 #[v] w fun e w'=>∃ u,e=.returned u∧w'.ownsRow w.heap.size 5 1 u (sealedN b).length (encN .u8 (sealedN b))∧Below w.heap.size w w':=by
 have H1:=Lib.hid (with_any v b 8 0 (by decide) (by omega) (by omega) w hv)
 have hl:=withN_length (b:=b) (at_:=8) (x:=0) (by omega)
 have hlt:=withN_lt hv.2 8 0
 have HSe:=Lib.hid (show sealedN b=withN (withN b 8 0) 8 (sumN (withN b 8 0)) from rfl)
 generalize withN b 8 0=c at *
 obtain ⟨a0,c0,rfl,-⟩:=hv.1
 have HLT:=Lib.hid hlt
 clear hv hlt
 go_enter Tryz.func115,Tryz.ntmps115
 go_wp2_with fail
 refine H1.out.mono ?_
 rintro e w1 ⟨u,rfl,ho,hb1⟩
 have HC:=Lib.hid (own_bytes ho HLT.out)
 have HB1:=Lib.hid hb1
 obtain ⟨a2,c2,rfl,-⟩:=own_sl ho
 have H2:=Lib.hid (sum_bytes _ c w1 HC.out)
 have H3:=Lib.hid (with_any _ c 8 (sumN c) (sumN_lt c) (by omega) (by omega) w1 HC.out)
 rw [← HSe.out] at H3
 clear ho hb1 H1
 rw [hl] at H2 H3
 generalize sumN c=x at *
 go_wp2_with fail
 refine H2.out.mono ?_
 rintro e w2 ⟨rfl,rfl⟩
 go_wp2_with fail
 refine H3.out.mono ?_
 rintro e w2 ⟨u2,rfl,ho2,hb2⟩
 have HO:=Lib.hid (own_from (own_base ho2) (B:=w.heap.size) (fun g e=>Nat.le_trans HB1.out.size (ho2.lt g e).1))
 have HB2:=Lib.hid (Bel.tr HB1.out hb2)
 obtain ⟨a3,c3,rfl,-⟩:=own_sl ho2
 clear ho2 hb2
 go_wp2_with fail
 go_ret
 exact ⟨_,rfl,HO.out,HB2.out⟩
def encS (l:List (Nat×Nat)):List Value:=l.flatMap fun s=>[.int .u32 s.1,.int .u32 s.2]
theorem encS_length (l:List (Nat×Nat)):(encS l).length=l.length * 2:=by
 induction l with
 | nil=>rfl
 | cons p l ih=>rw [show encS (p :: l)=[.int .u32 p.1,.int .u32 p.2]++encS l from rfl,List.length_append,ih];simp;omega
theorem encS_append (l m:List (Nat×Nat)):encS (l++m)=encS l++encS m:=by simp [encS]
theorem encS_at (l:List (Nat×Nat)):∀ k,k<l.length→(encS l)[k * 2]?=some (.int .u32 (l.getD k (0,0)).1)∧(encS l)[k * 2+1]?=some (.int .u32 (l.getD k (0,0)).2):=by
 induction l with
 | nil=>intro k h;simp at h
 | cons p l ih =>
  intro k h
  have e:encS (p :: l)=[.int .u32 p.1,.int .u32 p.2]++encS l:=rfl
  cases k with
  | zero=>rw [e];exact ⟨rfl,rfl⟩
  | succ k =>
   obtain ⟨h1,h2⟩:=ih k (by simpa using h)
   rw [e]
   have f:∀ t,([.int .u32 p.1,.int .u32 p.2]++encS l:List Value)[(k+1) * 2+t]?=(encS l)[k * 2+t]?:=fun t=>by
    rw [List.getElem?_append_right (by simp;omega)];congr 1;simp;omega
   exact ⟨(f 0).trans h1,(f 1).trans h2⟩
theorem spansL_length:∀ (a:Nat) (l:List Nat),(spansL a l).length=l.length
 | _,[]=>rfl
 | a,n :: l=>by rw [spansL,List.length_cons,List.length_cons,spansL_length (a+n) l]
theorem spansL_take:∀ (l:List Nat) (a k:Nat),k<l.length→(spansL a l).take (k+1)=(spansL a l).take k++[(a+(l.take k).sum,l.getD k 0)]
 | [],a,k,h=>by simp at h
 | n :: l,a,0,h=>by simp [spansL]
 | n :: l,a,k+1,h=>by
  have:=spansL_take l (a+n) k (by simpa using h)
  rw [spansL,List.take_succ_cons,this,List.take_succ_cons,List.cons_append,List.take_succ_cons,List.sum_cons,Nat.add_assoc]
  rfl
theorem sum_take_le:∀ (l:List Nat) (k:Nat),(l.take k).sum≤l.sum
 | [],k=>by simp
 | n :: l,0=>by simp
 | n :: l,k+1=>by have:=sum_take_le l k;simp only [List.take_succ_cons,List.sum_cons];omega
theorem sum_take_succ:∀ (l:List Nat) (k:Nat),k<l.length→(l.take (k+1)).sum=(l.take k).sum+l.getD k 0
 | [],k,h=>by simp at h
 | n :: l,0,h=>by simp
 | n :: l,k+1,h=>by
  have:=sum_take_succ l k (by simpa using h)
  simp only [List.take_succ_cons,List.sum_cons,List.getD_cons_succ] at this ⊢
  omega
theorem info225:(Tryz.prog.info? 189).map (fun i=>(i.zero,i.size,i.bytes))=some (some (.agg #[.int .u32 0,.int .u32 0]),2,8):=by kernel_rfl
theorem run_b225 (x y:Int) (w:World):(Instr.build 189 #[(0,.int .u32 x),(1,.int .u32 y)]).run Tryz.prog w=.ok (.agg #[.int .u32 x,.int .u32 y]) w:=by kernel_rfl
theorem run_bs221 (x y:Int) (w:World):(Instr.buildSlice 185 1 #[(0,.agg #[.int .u32 x,.int .u32 y])]).run Tryz.prog w=.ok (.slice (some ⟨w.heap.size,0,none⟩) 1 1) (w.alloc (.cells #[.int .u32 x,.int .u32 y] 189)):=by kernel_rfl
theorem laySpans_any (v:Value) (first:Nat) (l:List Nat) (hl:l.length≤1000) (hs:first+l.sum<4294967296) (w:World) (hv:Words w v l) :
 Calls Tryz.prog 114 #[.int .u32 first,v] w fun e w'=>∃ u,e=.returned (.tuple #[u,.int .i64 0])∧w'.ownsRow w.heap.size 189 2 u l.length (encS (spansL first l))∧Below w.heap.size w w':=by
 obtain ⟨i0,hi,hz0,hz1,hz2⟩:=info_parts info225
 have hb225:=run_b225
 have hb221:=run_bs221
 obtain ⟨⟨a,cap,rfl,hll,hnc,hcm,hnil,hp⟩,hlt⟩:=hv
 have Hp:=Lib.hid hp
 have Hlt:=Lib.hid hlt
 have Hs:=Lib.hid hs
 have hf32:first<4294967296:=by omega
 clear hp hlt hs hnil hll
 go_enter Tryz.func114,Tryz.ntmps114
 go_wp2_with fail
 go_loopw [6,7,14] (fun p u i wr=>∃ k:Nat,k≤l.length∧i=.int .i64 k∧p=.int .u64 ((first+(l.take k).sum:Nat):Int)∧wr.ownsRow w.heap.size 189 2 u k (encS ((spansL first l).take k))∧Below w.heap.size w wr) (fun _ _ i _=>l.length - (intOf i).toNat)
 case atStart=>exact ⟨0,by omega,rfl,by simp,World.ownsRow_nil _ _ _ _,Below.refl _ _⟩
 case round =>
  obtain ⟨k,hk,rfl,rfl,ho,hb⟩:=hrel
  have HO:=Lib.hid ho
  have HB:=Lib.hid hb
  clear ho hb
  by_cases hlt:k<l.length
  ·obtain ⟨b,off,rfl,hbl,hc⟩:=Hp.out (by omega)
   have hcc:=hc k (by rw [encN_length];exact hlt)
   rw [encN_at _ l k hlt] at hcc
   have hcell:=(HB.out.cell (p:=⟨b,off+k,none⟩) hbl).trans hcc
   have Ht:=Lib.hid (spansL_take l first k hlt)
   have Hsum:=Lib.hid (sum_take_succ l k hlt)
   have hle:=sum_take_le l (k+1)
   have hss:=Hs.out
   have hx:=Hlt.out k
   have hbd:first+(l.take k).sum+l.getD k 0≤4294967295:=by rw [Hsum.out] at hle;omega
   have HOo:=Lib.hid (own_base HO.out)
   clear hc hcc hle hss
   generalize l.getD k 0=x at *
   generalize (l.take k).sum=s at *
   have hw:IntKind.u32.wrap ((first+s:Nat):Int)=((first+s:Nat):Int):=u32_wrap _ (by omega)
   have hki:(k:Int)<(l.length:Int):=by omega
   have hk0:(0:Int)≤(k:Int):=by omega
   go_wp2_with ((with_reducible refine wpList_append1B (o:=⟨some 24,.call { callee:=.builtin .append,args:=#[.tmp 18,.tmp 23],argTypes:=#[185,185] },_,_,_,none⟩) rfl _ _ 185 rfl 189 i0 (.agg #[.int .u32 0,.int .u32 0]) 2 8 Tryz.underlying185 hi hz0 hz1 hz2 ?_ ?_ _ _ _ HOo.out _ _ wr.heap.size ?_ ?_ ?_ ?_ ?_ ?_ ?_ ?_);rfl;decide;rfl;rfl;rfl;rfl;(simp [Value.oneCell']);(unfold maxLen;omega);omega;intro g c w1 hr1 hg1 hl1)
   go_roundw
   case rel=>exact ⟨k+1,by omega,by go_num,by rw [Hsum.out];go_num,by
    rw [Ht.out,encS_append]
    exact own_from hr1 (fun g' e=>by
     rcases hg1.2 g' e with h'|h'
     ·exact (HO.out.lt g' h').1
     ·have:=HB.out.size;omega),HB.out.grown hg1.1 HB.out.size (fun g' e=>(HO.out.lt g' e).1)⟩
   case measure=>simp [intOf];omega
  ·obtain rfl:k=l.length:=by omega
   have HF:=Lib.hid (show wr.ownsRow w.heap.size 189 2 u7 l.length (encS (spansL first l)) from by
    have:=HO.out
    rwa [List.take_of_length_le (by rw [spansL_length];exact Nat.le_refl _)] at this)
   go_wp2_with fail
   go_ret2
   exact ⟨_,rfl,HF.out,HB.out⟩
attribute [local go_sem ↓] Go.wp_at_zero Go.wp_at_succ
theorem nameB_lt (n:ByteArray×Nat):∀ x ∈ nameB n,x<256:=by
 intro x hx
 unfold nameB at hx
 rcases List.mem_append.1 hx with hx|hx
 ·exact le4_lt _ x hx
 ·rcases List.mem_append.1 hx with hx|hx
  ·rw [List.mem_singleton.1 hx];exact Nat.mod_lt _ (by decide)
  ·obtain ⟨b,_,rfl⟩:=List.mem_map.1 hx
   exact b.toNat_lt
theorem namesB_lt (lx:List (ByteArray×Nat)):∀ x ∈ namesB lx,x<256:=by
 intro x hx
 obtain ⟨n,_,hn⟩:=List.mem_flatMap.1 hx
 exact nameB_lt n x hn
theorem namesB_take (lx:List (ByteArray×Nat)) (k:Nat) (hk:k<lx.length):namesB (lx.take (k+1))=namesB (lx.take k)++nameB (lx.getD k (ByteArray.empty,0)):=by
 unfold namesB
 rw [List.take_add_one,List.getElem?_eq_getElem hk,List.flatMap_append,List.getD_eq_getElem?_getD,List.getElem?_eq_getElem hk]
 simp
theorem byN_length (s:ByteArray):(byN s).length=s.size:=by unfold byN;rw [List.length_map,Array.length_toList];rfl
theorem nameB_length (n:ByteArray×Nat):(nameB n).length=5+n.1.size:=by
 simp only [nameB,List.length_append,le4_length,List.length_cons,List.length_nil,byN_length];omega
theorem byN_lt (s:ByteArray):∀ x ∈ byN s,x<256:=by
 intro x hx
 obtain ⟨b,_,rfl⟩:=List.mem_map.1 hx
 exact b.toNat_lt
theorem put8_one (b:Nat) (x:Nat) (hx:x<256) (w:World) (hc:w.cell? ⟨b,0,none⟩=some (.int .u8 x)) :
 Calls Tryz.prog 113 #[.slice (some ⟨b,0,none⟩) 1 1] w fun e w'=>∃ v,e=.returned v∧w'.ownsRow w.heap.size 5 1 v 1 (encN .u8 [x])∧Below w.heap.size w w':=by
 refine (put8_any (some ⟨b,0,none⟩) 1 [x] (by simpa using hx) w ⟨some ⟨b,0,none⟩,1,rfl,rfl,Nat.le_refl _,by decide,(fun h=>by cases h),fun _=>⟨b,0,rfl,World.block_lt_of_cell? w _ hc,fun j hj=>?_⟩⟩ (by simp)).mono ?_
 ·have:j=0:=by simp [encN] at hj;exact hj
  subst this
  exact hc
 ·rintro e w' ⟨v',rfl,hown,hg⟩
  exact ⟨v',rfl,own_from hown (fun g e=>(hg.2 g e).resolve_left (by simp [Value.ownBlock])),hg.bel⟩
theorem put4_one (b:Nat) (x:Nat) (hx:x<4294967296) (w:World) (hc:w.cell? ⟨b,0,none⟩=some (.int .u32 x)) :
 Calls Tryz.prog 112 #[.slice (some ⟨b,0,none⟩) 1 1] w fun e w'=>∃ v,e=.returned v∧w'.ownsRow w.heap.size 5 1 v 4 (encN .u8 (le4 x))∧Below w.heap.size w w':=by
 refine (put_any (some ⟨b,0,none⟩) 1 [x] (by simpa using hx) w ⟨some ⟨b,0,none⟩,1,rfl,rfl,Nat.le_refl _,by decide,(fun h=>by cases h),fun _=>⟨b,0,rfl,World.block_lt_of_cell? w _ hc,fun j hj=>?_⟩⟩ (by simp)).mono ?_
 ·have:j=0:=by simp [encN] at hj;exact hj
  subst this
  exact hc
 ·rintro e w' ⟨v',rfl,hown,hg⟩
  refine ⟨v',rfl,?_,hg.bel⟩
  have h:=own_from hown (fun g e=>(hg.2 g e).resolve_left (by simp [Value.ownBlock]))
  simpa [le4s] using h
theorem below_bytes (w:World) (s:ByteArray):Below w.heap.size w (Go.Lib.bytesWorld w 5 s) :=
 ⟨rfl,rfl,rfl,by rw [Go.Lib.bytesWorld_size];omega,fun k hk=>Go.Lib.bytesWorld_at_old w 5 s k hk⟩
theorem cell1_new (w:World) (v:Value) (t:TypeId) {b:Nat} (hb:b=w.heap.size):(w.alloc (.cells #[v] t)).cell? ⟨b,0,none⟩=some v:=by subst hb;simp [go_sem]
theorem cell_dr {w:World} {a:Addr} {v:Value} (h:w.cell? a=some v):w.drew.cell? a=some v:=h
theorem cell_alE {w:World} {a:Addr} {v:Value} {o:Obj} (h:w.cell? a=some v):(w.alloc o).cell? a=some v:=((Bel.new w o).cell (p:=a) (World.block_lt_of_cell? w a h)).trans h
theorem cell_by {w:World} {a:Addr} {v:Value} {s:ByteArray} (h:w.cell? a=some v):(Go.Lib.bytesWorld w 5 s).cell? a=some v:=((below_bytes w s).cell (p:=a) (World.block_lt_of_cell? w a h)).trans h
theorem cell_be {w w':World} {a:Addr} {v:Value} (hb:Below w.heap.size w w') (h:w.cell? a=some v):w'.cell? a=some v:=(hb.cell (p:=a) (World.block_lt_of_cell? w a h)).trans h
theorem bel_by {w w1:World} {s:ByteArray} (h:Below w.heap.size w w1):Below w.heap.size w (Go.Lib.bytesWorld w1 5 s):=Bel.tr h (below_bytes w1 s)
theorem bytes_conv (w:World) (s:ByteArray) (hs:s.size≤1000) {b c:Nat} (hb:b=w.heap.size) (hc:c=grownCap w s.size 0 5):Bytes (Go.Lib.bytesWorld w 5 s) (.slice (some ⟨b,0,none⟩) s.size c) (byN s):=by
 subst hb hc
 refine ⟨⟨some ⟨w.heap.size,0,none⟩,grownCap w s.size 0 5,by rw [byN_length],by rw [encN_length,Nat.mul_one],?_,grownCap_le_maxLen w s.size 0 5 (by unfold maxLen;omega),(fun h=>by cases h),fun _=>⟨w.heap.size,0,rfl,by rw [Go.Lib.bytesWorld_size];omega,fun j hj=>?_⟩⟩,byN_lt s⟩
 ·rw [byN_length];exact grownCap_ge w s.size 0 5
 ·rw [encN_length,byN_length] at hj
  rw [Nat.zero_add,Go.Lib.bytesWorld_cell w 5 s j hj]
  have hj2:j<s.data.size:=hj
  simp only [encN,byN,List.getD_eq_getElem?_getD,List.map_map,List.getElem?_map,Array.getElem?_toList]
  rw [Array.getElem?_eq_getElem hj2]
  rfl
theorem own_down {w:World} {B B' e sz n:Nat} {v:Value} {xs:List Value} (h:w.ownsRow B' e sz v n xs) (hb:B≤B'):w.ownsRow B e sz v n xs:=own_from (own_base h) (fun g e=>Nat.le_trans hb (h.lt g e).1)
theorem concat4 (w:World) (v0 v1 v2 v3:Value) (l0 l1 l2 l3:List Nat) (ht:l0.length+l1.length+l2.length+l3.length≤100000000) (h0:Bytes w v0 l0) (h1:Bytes w v1 l1) (h2:Bytes w v2 l2) (h3:Bytes w v3 l3) :
 Calls Tryz.prog 111 #[.slice (some ⟨w.heap.size,0,none⟩) 4 4] (w.alloc (.cells #[v0,v1,v2,v3] 24)) fun e w'=>∃ v,e=.returned v∧w'.ownsRow w.heap.size 5 1 v (l0.length+l1.length+l2.length+l3.length) (encN .u8 (l0++l1++l2++l3))∧Below (w.alloc (.cells #[v0,v1,v2,v3] 24)).heap.size (w.alloc (.cells #[v0,v1,v2,v3] 24)) w':=by
 have hb:Below w.heap.size w (w.alloc (.cells #[v0,v1,v2,v3] 24)):=Bel.new w _
 have hsz:(w.alloc (.cells #[v0,v1,v2,v3] 24)).heap.size=w.heap.size+1:=by simp
 have hfl:[l0,l1,l2,l3].flatten=l0++l1++l2++l3:=by simp
 have hlen:(l0++l1++l2++l3).length=l0.length+l1.length+l2.length+l3.length:=by simp [List.length_append,Nat.add_assoc]
 refine (concat_any w.heap.size 4 4 [v0,v1,v2,v3] [l0,l1,l2,l3] rfl (by decide) (by rw [hfl,hlen];exact ht) _ ⟨rfl,by rw [hsz];omega,fun j hj=>?_,fun j v hv=>?_⟩).mono ?_
 ·have:j=0 ∨ j=1 ∨ j=2 ∨ j=3:=by simp at hj;omega
  rcases this with rfl|rfl|rfl|rfl <;> simp [go_sem]
 ·have hj:j<4:=by
   have:=(List.getElem?_eq_some_iff.1 hv).1
   simpa using this
  have:j=0 ∨ j=1 ∨ j=2 ∨ j=3:=by omega
  rcases this with rfl|rfl|rfl|rfl
  ·obtain rfl:v0=v:=by simpa using hv
   exact h0.below hb
  ·obtain rfl:v1=v:=by simpa using hv
   exact h1.below hb
  ·obtain rfl:v2=v:=by simpa using hv
   exact h2.below hb
  ·obtain rfl:v3=v:=by simpa using hv
   exact h3.below hb
 ·rintro e w' ⟨v,rfl,ho,hb'⟩
  rw [hfl,hlen] at ho
  exact ⟨v,rfl,own_down ho (by rw [hsz];omega),hb'⟩
theorem namesB_len (lx:List (ByteArray×Nat)) (h:∀ j,j<lx.length→(lx.getD j (ByteArray.empty,0)).1.size≤1000):∀ k,k≤lx.length→(namesB (lx.take k)).length≤k * 2000
 | 0,_=>by simp [namesB]
 | k+1,hk=>by
  have ih:=namesB_len lx h k (by omega)
  have:=h k (by omega)
  rw [namesB_take lx k (by omega),List.length_append,nameB_length]
  omega
theorem lists4 (w:World) (v0 v1 v2 v3:Value) (l0 l1 l2 l3:List Nat) (h0:Bytes w v0 l0) (h1:Bytes w v1 l1) (h2:Bytes w v2 l2) (h3:Bytes w v3 l3) :
 ListsB (w.alloc (.cells #[v0,v1,v2,v3] 24)) w.heap.size [v0,v1,v2,v3] [l0,l1,l2,l3]:=by
 have hb:Below w.heap.size w (w.alloc (.cells #[v0,v1,v2,v3] 24)):=Bel.new w _
 refine ⟨rfl,by simp,fun j hj=>?_,fun j v hv=>?_⟩
 ·have:j=0 ∨ j=1 ∨ j=2 ∨ j=3:=by simp at hj;omega
  rcases this with rfl|rfl|rfl|rfl <;> simp [go_sem]
 ·have hj:j<4:=by
   have:=(List.getElem?_eq_some_iff.1 hv).1
   simpa using this
  have:j=0 ∨ j=1 ∨ j=2 ∨ j=3:=by omega
  rcases this with rfl|rfl|rfl|rfl
  ·obtain rfl:v0=v:=by simpa using hv
   exact h0.below hb
  ·obtain rfl:v1=v:=by simpa using hv
   exact h1.below hb
  ·obtain rfl:v2=v:=by simpa using hv
   exact h2.below hb
  ·obtain rfl:v3=v:=by simpa using hv
   exact h3.below hb
theorem lists2 (w:World) (v0 v1:Value) (l0 l1:List Nat) (h0:Bytes w v0 l0) (h1:Bytes w v1 l1) :
 ListsB (w.alloc (.cells #[v0,v1] 24)) w.heap.size [v0,v1] [l0,l1]:=by
 have hb:Below w.heap.size w (w.alloc (.cells #[v0,v1] 24)):=Bel.new w _
 refine ⟨rfl,by simp,fun j hj=>?_,fun j v hv=>?_⟩
 ·have:j=0 ∨ j=1:=by simp at hj;omega
  rcases this with rfl|rfl <;> simp [go_sem]
 ·have hj:j<2:=by
   have:=(List.getElem?_eq_some_iff.1 hv).1
   simpa using this
  have:j=0 ∨ j=1:=by omega
  rcases this with rfl|rfl
  ·obtain rfl:v0=v:=by simpa using hv
   exact h0.below hb
  ·obtain rfl:v1=v:=by simpa using hv
   exact h1.below hb
theorem ListsB.at {w:World} {q:Nat} {vs:List Value} {ls:List (List Nat)} (h:ListsB w q vs ls) (k:Nat) (hk:k<ls.length):∃ a c,w.cell? ⟨q,k,none⟩=some (.slice a (ls.getD k []).length c)∧Bytes w (.slice a (ls.getD k []).length c) (ls.getD k []):=by
 have hv:k<vs.length:=by rw [h.hl];exact hk
 obtain ⟨v,hv'⟩:∃ v,vs[k]?=some v:=⟨_,List.getElem?_eq_getElem hv⟩
 have hb:=h.hb k v hv'
 have hc:=h.hc k hv
 obtain ⟨⟨a,c,rfl,rest⟩,hlt⟩:=hb
 exact ⟨a,c,hc.trans hv',⟨⟨a,c,rfl,rest⟩,hlt⟩⟩
theorem concat2 (w:World) (v0 v1:Value) (l0 l1:List Nat) (ht:(l0++l1).length≤100000000) (h0:Bytes w v0 l0) (h1:Bytes w v1 l1) :
 Calls Tryz.prog 111 #[.slice (some ⟨w.heap.size,0,none⟩) 2 2] (w.alloc (.cells #[v0,v1] 24)) fun e w'=>∃ v,e=.returned v∧w'.ownsRow w.heap.size 5 1 v (l0++l1).length (encN .u8 (l0++l1))∧Below w.heap.size w w':=by
 have hfl:[l0,l1].flatten=l0++l1:=by simp
 refine (concat_any w.heap.size 2 2 [v0,v1] [l0,l1] rfl (by decide) (by rw [hfl];exact ht) _ (lists2 w v0 v1 l0 l1 h0 h1)).mono ?_
 rintro e w' ⟨v,rfl,ho,hb'⟩
 rw [hfl] at ho
 exact ⟨v,rfl,own_down ho (by simp),Bel.of hb'⟩
theorem encode_lt (l:List (Nat×Nat)) (h:∀ i ∈ l,i.1<256∧i.2<4294967296):∀ x ∈ encode l,x<256:=by
 intro x hx
 obtain ⟨i,hi,hx⟩:=List.mem_flatMap.1 hx
 rcases List.mem_cons.1 hx with rfl|hx
 ·exact (h i hi).1
 ·exact le4_lt _ x (List.mem_of_mem_take hx)
theorem le4s_lt (l:List Nat):∀ x ∈ le4s l,x<256:=by
 intro x hx
 obtain ⟨i,_,hx⟩:=List.mem_flatMap.1 hx
 exact le4_lt _ x hx
theorem words_lt {w:World} {v:Value} {l:List Nat} (h:Words w v l):∀ x ∈ l,x<4294967296:=by
 intro x hx
 obtain ⟨k,hk,rfl⟩:=List.getElem_of_mem hx
 have:=h.2 k
 rwa [List.getD_eq_getElem?_getD,List.getElem?_eq_getElem hk] at this
theorem put_new (l:List Nat) (hl:∀ i ∈ l,i<4294967296) (hn:l.length≤1000) (w:World) (n:Nat) (hn2:n=l.length) (cs:Array Value) (hcs:cs.toList=encN .u32 l) :
 Calls Tryz.prog 112 #[.slice (some ⟨w.heap.size,0,none⟩) n n] (w.alloc (.cells cs 25)) fun e w'=>∃ v,e=.returned v∧w'.ownsRow w.heap.size 5 1 v (4 * l.length) (encN .u8 (le4s l))∧Below w.heap.size w w':=by
 subst hn2
 refine (put_any (some ⟨w.heap.size,0,none⟩) l.length l hl _ ⟨some ⟨w.heap.size,0,none⟩,l.length,rfl,by rw [encN_length,Nat.mul_one],Nat.le_refl _,by unfold maxLen;omega,(fun h=>by cases h),fun _=>⟨w.heap.size,0,rfl,by simp,fun j hj=>?_⟩⟩ (by omega)).mono ?_
 ·rw [← hcs] at hj ⊢
  simp [go_sem]
 ·rintro e w' ⟨v',rfl,hown,hg⟩
  exact ⟨v',rfl,own_from hown (fun g e=>by
   have:=(hg.2 g e).resolve_left (by simp [Value.ownBlock])
   simp at this
   omega),Bel.of hg.bel⟩
end Go.Proofs.YtdffaepbkecoeaaGreat
namespace Go.Proofs.YtdffaepbkecoeaaGreat
open Go.RowKit
set_option linter.unusedVariables false
attribute [local go_sem ↓] Go.wp_at_zero Go.wp_at_succ
theorem bytes_new (l:List Nat) (hl:∀ i ∈ l,i<256) (hn:l.length≤1000) (w:World) (n:Nat) (hn2:n=l.length) (cs:Array Value) (fr:Nat×Nat) (hcs:cs.toList=encN .u8 l):Bytes (w.alloc (.cells cs 5 fr)) (.slice (some ⟨w.heap.size,0,none⟩) n n) l:=by
 subst hn2
 refine ⟨⟨some ⟨w.heap.size,0,none⟩,l.length,rfl,by rw [encN_length,Nat.mul_one],Nat.le_refl _,by unfold maxLen;omega,(fun h=>by cases h),fun _=>⟨w.heap.size,0,rfl,by simp,fun j hj=>?_⟩⟩,hl⟩
 rw [Nat.zero_add,World.cell?_alloc_mark,← hcs,Array.getElem?_toList]
theorem put_at (l:List Nat) {w:World} {b n:Nat} {cs:Array Value} (hl:∀ i ∈ l,i<4294967296) (hn:l.length≤1000) (hb:b=w.heap.size) (hn2:n=l.length) (hcs:cs.toList=encN .u32 l) :
 Calls Tryz.prog 112 #[.slice (some ⟨b,0,none⟩) n n] (w.alloc (.cells cs 25)) fun e w'=>∃ v,e=.returned v∧w'.ownsRow w.heap.size 5 1 v (4 * l.length) (encN .u8 (le4s l))∧Below w.heap.size w w':=by
 subst hb
 exact put_new l hl hn w n hn2 cs hcs
theorem spansL_lt (N:Nat):∀ (l:List Nat) (a:Nat),a+l.sum<N→∀ s ∈ spansL a l,s.1<N∧s.2<N
 | [],_,_,s,h=>by simp [spansL] at h
 | n :: l,a,h,s,hs=>by
  rw [List.sum_cons] at h
  rcases List.mem_cons.1 hs with rfl|hs
  ·exact ⟨by show a<N;omega,by show n<N;omega⟩
  ·exact spansL_lt N l (a+n) (by omega) s hs
def flatS (l:List (Nat×Nat)):List Nat:=l.flatMap (fun s=>le4s [s.1,s.2])
theorem flatS_length (l:List (Nat×Nat)):(flatS l).length=8 * l.length:=by
 induction l with
 | nil=>rfl
 | cons s l ih =>
  have:flatS (s :: l)=le4s [s.1,s.2]++flatS l:=rfl
  rw [this,List.length_append,ih,le4s_length,List.length_cons]
  simp only [List.length_cons,List.length_nil]
  omega
theorem flatS_take (l:List (Nat×Nat)) (k:Nat) (hk:k<l.length):flatS (l.take (k+1))=flatS (l.take k)++le4s [(l.getD k (0,0)).1,(l.getD k (0,0)).2]:=by
 rw [flatS,flatS,List.take_add_one,List.getElem?_eq_getElem hk,List.flatMap_append,List.getD_eq_getElem?_getD,List.getElem?_eq_getElem hk]
 simp
theorem flatS_lt (l:List (Nat×Nat)):∀ x ∈ flatS l,x<256:=by
 intro x hx
 obtain ⟨i,_,hx⟩:=List.mem_flatMap.1 hx
 exact le4s_lt _ x hx
theorem flat_take (ls:List (List Nat)) (k:Nat) (hk:k<ls.length):(ls.take (k+1)).flatten=(ls.take k).flatten++ls.getD k []:=by
 rw [List.take_add_one,List.getElem?_eq_getElem hk,List.flatten_append,List.getD_eq_getElem?_getD,List.getElem?_eq_getElem hk]
 simp
def cvS (x:Operand):Op:=Op.convert 9 24 x
attribute [local go_sem] cvS
theorem imgEncode_any (vc vj vd vn:Value) (m:Img) (hm:checkI m=0) (w:World) (h:ImgAt w vc vj vd vn m) :
 Calls Tryz.prog 61 #[.agg #[vc,vj,vd,.int .u32 m.zero,.int .u32 m.stack,vn]] w fun e w'=>∃ u,e=.returned (.tuple #[u,.int .i64 0])∧w'.ownsRow w.heap.size 5 1 u (imgB m).length (encN .u8 (imgB m))∧Below w.heap.size w w':=by
 have H:=Lib.hid h
 obtain ⟨hc1,hc2,hc3,hc4,hc5,hc6,hc7⟩:=checkI_ok hm
 have hb0:=Bel.new w (.cells #[vc,vj,vd,.int .u32 m.zero,.int .u32 m.stack,vn] 28)
 have HC:=Lib.hid (cells_new6 w vc vj vd (.int .u32 m.zero) (.int .u32 m.stack) vn 28)
 obtain ⟨W0,hW0⟩:∃ W0,W0=w.alloc (.cells #[vc,vj,vd,.int .u32 m.zero,.int .u32 m.stack,vn] 28):=⟨_,rfl⟩
 have HK:=Lib.hid (imgCheck_any vc vj vd vn m W0 (by rw [hW0];exact h.below hb0))
 rw [hm] at HK
 obtain ⟨ac,cc,rfl,-⟩:=h.c.1
 obtain ⟨aj,cj,rfl,-⟩:=h.j.1
 obtain ⟨ad,cd,rfl,-⟩:=h.d.1
 obtain ⟨an,cn,rfl,-⟩:=h.n.1
 clear h
 go_enter Tryz.func61,Tryz.ntmps61
 go_wp2_with fail
 rw [← hW0]
 refine HK.out.mono ?_
 rintro e w1 ⟨rfl,hb1⟩
 have hs0:w.heap.size<W0.heap.size:=by rw [hW0];simp
 have c0:w1.cell? ⟨w.heap.size,0,none⟩=some (.slice ac m.code.length cc):=(hb1.cell (p:=⟨w.heap.size,0,none⟩) hs0).trans (by rw [hW0];exact HC.out.1)
 have c1:w1.cell? ⟨w.heap.size,1,none⟩=some (.slice aj m.js.length cj):=(hb1.cell (p:=⟨w.heap.size,1,none⟩) hs0).trans (by rw [hW0];exact HC.out.2.1)
 have c2:w1.cell? ⟨w.heap.size,2,none⟩=some (.slice ad m.data.length cd):=(hb1.cell (p:=⟨w.heap.size,2,none⟩) hs0).trans (by rw [hW0];exact HC.out.2.2.1)
 have c3:w1.cell? ⟨w.heap.size,3,none⟩=some (.int .u32 m.zero):=(hb1.cell (p:=⟨w.heap.size,3,none⟩) hs0).trans (by rw [hW0];exact HC.out.2.2.2.1)
 have c4:w1.cell? ⟨w.heap.size,4,none⟩=some (.int .u32 m.stack):=(hb1.cell (p:=⟨w.heap.size,4,none⟩) hs0).trans (by rw [hW0];exact HC.out.2.2.2.2.1)
 have c5:w1.cell? ⟨w.heap.size,5,none⟩=some (.slice an m.lx.length cn):=(hb1.cell (p:=⟨w.heap.size,5,none⟩) hs0).trans (by rw [hW0];exact HC.out.2.2.2.2.2)
 have hbw1:Below w.heap.size w w1:=Bel.tr (by rw [hW0];exact hb0) hb1
 have hs1:w.heap.size<w1.heap.size:=Nat.lt_of_lt_of_le hs0 hb1.size
 have H1:=Lib.hid (H.out.below hbw1)
 have HB1:=Lib.hid hbw1
 have HE:=Lib.hid (encode_any _ m.code w1 H1.out.c)
 have henc:encRes m.code=(encode m.code,0,0):=encRes_ok (by omega) (fun j hj=>firstBad_all hc2 j hj)
 have Henc:=Lib.hid henc
 clear hb1 hW0 hb0 HC HK H hbw1 henc
 go_wp2_with fail
 refine HE.out.mono ?_
 intro e w2 hE
 unfold EncPost at hE
 rw [Henc.out] at hE
 obtain ⟨uc,rfl,oc,gc,-⟩:=hE
 simp only at oc
 have hb2:=gc.bel
 have hs2:w.heap.size<w2.heap.size:=Nat.lt_of_lt_of_le hs1 hb2.size
 have oc':=own_from oc (B:=w1.heap.size) (fun g e=>(gc.2 g e).resolve_left (by simp [Value.ownBlock]))
 obtain ⟨auc,cuc,rfl,-⟩:=own_sl oc
 have HOC:=Lib.hid oc'
 have HB2:=Lib.hid hb2
 have d0:=(hb2.cell (p:=⟨w.heap.size,0,none⟩) hs1).trans c0
 have d1:=(hb2.cell (p:=⟨w.heap.size,1,none⟩) hs1).trans c1
 have d2:=(hb2.cell (p:=⟨w.heap.size,2,none⟩) hs1).trans c2
 have d3:=(hb2.cell (p:=⟨w.heap.size,3,none⟩) hs1).trans c3
 have d4:=(hb2.cell (p:=⟨w.heap.size,4,none⟩) hs1).trans c4
 have d5:=(hb2.cell (p:=⟨w.heap.size,5,none⟩) hs1).trans c5
 have H2:=Lib.hid (H1.out.below hb2)
 clear hb2 gc oc oc' c0 c1 c2 c3 c4 c5 HE
 have hnl:m.lx.length≤64:=hc6
 have Hnl:=Lib.hid (namesB_len m.lx (fun j hj=>by
  have:=(namesN_iff m.lx).1 hc7 j hj
  unfold nameN at this
  simp only [Bool.and_eq_true,decide_eq_true_eq] at this
  have:=this.2.1
  omega))
 go_wp2_with fail
 go_loopw [8,39] (fun u i wr=>∃ k:Nat,k≤m.lx.length∧i=.int .i64 k∧wr.ownsRow w2.heap.size 5 1 u (namesB (m.lx.take k)).length (encN .u8 (namesB (m.lx.take k)))∧Below w2.heap.size w2 wr) (fun _ i _=>m.lx.length - (intOf i).toNat)
 case atStart=>exact ⟨0,by omega,rfl,World.ownsRow_nil _ _ _ _,Below.refl _ _⟩
 case round =>
  obtain ⟨k,hk,rfl,ho,hb⟩:=hrel
  have HO:=Lib.hid ho
  have HB:=Lib.hid hb
  have hwr:=hb.size
  by_cases hlt:k<m.lx.length
  ·obtain ⟨⟨an',cn',he,hl',hnc,hcm,hnn,hp⟩,hx32⟩:=H2.out.n
   cases he
   obtain ⟨b,off,rfl,hbl,hc⟩:=hp (by omega)
   obtain ⟨x1,x2⟩:=encX_at m.lx k hlt
   have n0:=(hb.cell (p:=⟨b,off+k * 2,none⟩) hbl).trans ((hc (k * 2) (by rw [encX_length];omega)).trans x1)
   have n1:wr.cell? ⟨b,off+k * 2+1,none⟩=some (.int .u32 (m.lx.getD k (ByteArray.empty,0)).2):=(hb.cell (p:=⟨b,off+k * 2+1,none⟩) hbl).trans ((by rw [Nat.add_assoc];exact hc (k * 2+1) (by rw [encX_length];omega):w2.cell? ⟨b,off+k * 2+1,none⟩=_).trans x2)
   have hx3:=hx32 k
   rw [getD_snd] at hx3
   have Ht:=Lib.hid (namesB_take m.lx k hlt)
   have hnm:=(namesN_iff m.lx).1 hc7 k hlt
   unfold nameN at hnm
   simp only [Bool.and_eq_true,decide_eq_true_eq] at hnm
   have hn1:=hnm.1
   have hn2:=hnm.2.1
   clear hnm hc x1 x2 hp hnn hl' ho hb
   generalize m.lx.getD k (ByteArray.empty,0)=nx at *
   obtain ⟨sx,ax⟩:=nx
   simp only at *
   have hki:(k:Int)<(m.lx.length:Int):=by omega
   have hk0:(0:Int)≤(k:Int):=by omega
   have hbwr:b<wr.heap.size:=Nat.lt_of_lt_of_le hbl hwr
   obtain ⟨au,cu,rfl,-⟩:=own_sl HO.out
   go_wp2_with fail
   obtain ⟨q,hq⟩:∃ q,q=wr.heap.size:=⟨_,rfl⟩
   obtain ⟨WA,hWA⟩:∃ WA,WA=wr.alloc (.cells #[.string sx,.int .u32 ax] 167):=⟨_,rfl⟩
   have g0:WA.cell? ⟨q,0,none⟩=some (.string sx):=by rw [hWA,hq];simp [go_sem]
   have g1:WA.cell? ⟨q,1,none⟩=some (.int .u32 ax):=by rw [hWA,hq];simp [go_sem]
   have hqA:q<WA.heap.size:=by rw [hWA,hq];simp
   have HBA:=Lib.hid (show Below w2.heap.size w2 WA from by rw [hWA];exact Bel.al HB.out _)
   have hcv:=fun W:World=>Go.Lib.run_convert_string_bytes (P:=Tryz.prog) W 9 24 5 sx Tryz.underlying9 Tryz.underlying24 Tryz.underlying5
   have HS0:=Lib.hid (show WA.cell? ⟨q,0,none⟩=some (.string sx)∧WA.cell? ⟨q,1,none⟩=some (.int .u32 ax)∧Below WA.heap.size WA WA from ⟨g0,g1,Below.refl _ _⟩)
   have KC:=Lib.hid (show ∀ W W':World,Below W.heap.size W W'→(W.cell? ⟨q,0,none⟩=some (.string sx)∧W.cell? ⟨q,1,none⟩=some (.int .u32 ax)∧Below WA.heap.size WA W)→(W'.cell? ⟨q,0,none⟩=some (.string sx)∧W'.cell? ⟨q,1,none⟩=some (.int .u32 ax)∧Below WA.heap.size WA W') from
    fun W W' hb ⟨e1,e2,e3⟩=>⟨(hb.cell (p:=⟨q,0,none⟩) (Nat.lt_of_lt_of_le hqA e3.size)).trans e1,(hb.cell (p:=⟨q,1,none⟩) (Nat.lt_of_lt_of_le hqA e3.size)).trans e2,Bel.tr e3 hb⟩)
   rw [← hq,← hWA]
   have Hq:=Lib.hid hq
   have HWA:=Lib.hid hWA
   have hsz:(IntKind.u8.wrap (sx.size:Int))=((sx.size % 256:Nat):Int):=by rw [IntKind.wrap_u8];omega
   have HS1:=Lib.hid (show WA.drew.cell? ⟨q,0,none⟩=some (.string sx)∧WA.drew.cell? ⟨q,1,none⟩=some (.int .u32 ax)∧Below WA.heap.size WA WA.drew from ⟨g0,g1,(Below.refl _ _).drew⟩)
   clear hq hWA n0 n1
   rw [show ∀ x,Op.convert 9 24 x=cvS x from fun _=>rfl]
   have KB0:=Lib.hid (show ∀ W,Below WA.heap.size WA W→Bytes W (.slice au (namesB (m.lx.take k)).length cu) (namesB (m.lx.take k)) from fun W hW=>((own_bytes HO.out (namesB_lt _)).below (by rw [HWA.out];exact Bel.new _ _)).below hW)
   have Hlen:Hid ((namesB (m.lx.take k)).length+(le4 ax).length+[sx.size % 256].length+(byN sx).length≤100000000):=Lib.hid (by
    have:=Hnl.out k (by omega)
    rw [le4_length,byN_length]
    simp only [List.length_cons,List.length_nil]
    omega)
   have Hfin:Hid (∀ (W W2:World) (v:Value),W.ownsRow W2.heap.size 5 1 v ((namesB (m.lx.take k)).length+(le4 ax).length+[sx.size % 256].length+(byN sx).length) (encN .u8 (namesB (m.lx.take k)++le4 ax++[sx.size % 256]++byN sx))→Below WA.heap.size WA W2→W.ownsRow w2.heap.size 5 1 v (namesB (m.lx.take (k+1))).length (encN .u8 (namesB (m.lx.take (k+1))))):=Lib.hid (fun W W2 v ho hb=>by
    rw [Ht.out,nameB,List.length_append,List.length_append,List.length_append,← Nat.add_assoc,← Nat.add_assoc,← List.append_assoc,← List.append_assoc]
    exact own_down ho (Bel.tr HBA.out hb).size)
   go_region_held3 (fun w'=>w'.cell? ⟨q,0,none⟩=some (.string sx)∧w'.cell? ⟨q,1,none⟩=some (.int .u32 ax)∧Below WA.heap.size WA w')
    (first|exact HS1.out|exact HS0.out|assumption|exact KC.out _ _ (Bel.new _ _) (by assumption)|exact KC.out _ _ (below_bytes _ _) (by assumption)|exact KC.out _ _ (by assumption) (by assumption))
    (first
     | ((go_at_call 112;refine (put4_one _ ax hx3 _ ?_).mono ?_;(repeat (first|exact cell1_new _ _ _ (by simp)|(with_reducible refine cell_dr ?_)|(with_reducible refine cell_alE ?_)|(with_reducible refine cell_by ?_)|(with_reducible refine cell_be (by assumption) ?_)));rintro e w' ⟨va,rfl,oa,hba⟩;obtain ⟨aa,ca,rfl,-⟩:=own_sl oa))
     | ((go_at_call 111;refine (concat4 _ _ _ _ _ (namesB (m.lx.take k)) (le4 ax) [sx.size % 256] (byN sx) ?_ ?_ ?_ ?_ ?_).mono ?_;(exact Hlen.out);(refine KB0.out _ ?_;(repeat (first|exact Below.refl _ _|assumption|(with_reducible refine Bel.al ?_ _)|(with_reducible refine Bel.dr ?_)|(with_reducible refine bel_by ?_)|(with_reducible refine Bel.tr ?_ (by assumption)))));(refine (own_bytes oa (le4_lt _)).below ?_;(repeat (first|exact Below.refl _ _|assumption|(with_reducible refine Bel.al ?_ _)|(with_reducible refine Bel.dr ?_)|(with_reducible refine bel_by ?_)|(with_reducible refine Bel.tr ?_ (by assumption)))));(refine (own_bytes ob (fun y hy=>by rw [List.mem_singleton.1 hy];omega)).below ?_;(repeat (first|exact Below.refl _ _|assumption|(with_reducible refine Bel.al ?_ _)|(with_reducible refine Bel.dr ?_)|(with_reducible refine bel_by ?_)|(with_reducible refine Bel.tr ?_ (by assumption)))));(refine (bytes_conv _ sx (by omega) (by simp) rfl).below ?_;(repeat (first|exact Below.refl _ _|assumption|(with_reducible refine Bel.al ?_ _)|(with_reducible refine Bel.dr ?_)|(with_reducible refine bel_by ?_)|(with_reducible refine Bel.tr ?_ (by assumption)))));rintro e w' ⟨vf,rfl,of,hbf⟩;obtain ⟨af,cf,rfl,-⟩:=own_sl of))
     | ((go_at_call 113;refine (put8_one _ (sx.size % 256) (by omega) _ ?_).mono ?_;(repeat (first|exact cell1_new _ _ _ (by simp)|(with_reducible refine cell_dr ?_)|(with_reducible refine cell_alE ?_)|(with_reducible refine cell_by ?_)|(with_reducible refine cell_be (by assumption) ?_)));rintro e w' ⟨vb,rfl,ob,hbb⟩;obtain ⟨ab,cb,rfl,-⟩:=own_sl ob))
)
   all_goals (
    have HF:=Lib.hid (Hfin.out _ _ _ of (by (repeat (first|exact Below.refl _ _|assumption|(with_reducible refine Bel.al ?_ _)|(with_reducible refine Bel.dr ?_)|(with_reducible refine bel_by ?_)|(with_reducible refine Bel.tr ?_ (by assumption))))))
    have HFB:Hid (Below WA.heap.size WA w'):=Lib.hid (by (repeat (first|exact Below.refl _ _|assumption|(with_reducible refine Bel.al ?_ _)|(with_reducible refine Bel.dr ?_)|(with_reducible refine bel_by ?_)|(with_reducible refine Bel.tr ?_ (by assumption)))))
    go_wp2_with fail
    go_roundw
    case rel=>exact ⟨k+1,by omega,by go_num,HF.out,Bel.tr HBA.out HFB.out⟩
    case measure=>simp [intOf];omega)
  ·obtain rfl:k=m.lx.length:=by omega
   have HOn:=Lib.hid (show wr.ownsRow w2.heap.size 5 1 u8 (namesB m.lx).length (encN .u8 (namesB m.lx)) from by
    have:=HO.out
    rwa [List.take_length] at this)
   obtain ⟨au,cu,rfl,-⟩:=own_sl HOn.out
   have e0:=(HB.out.cell (p:=⟨w.heap.size,0,none⟩) hs2).trans d0
   have e1:=(HB.out.cell (p:=⟨w.heap.size,1,none⟩) hs2).trans d1
   have e2:=(HB.out.cell (p:=⟨w.heap.size,2,none⟩) hs2).trans d2
   have e3:=(HB.out.cell (p:=⟨w.heap.size,3,none⟩) hs2).trans d3
   have e4:=(HB.out.cell (p:=⟨w.heap.size,4,none⟩) hs2).trans d4
   have hs3:w.heap.size<wr.heap.size:=Nat.lt_of_lt_of_le hs2 hwr
   have H3:=Lib.hid (H2.out.below HB.out)
   have P0:=Lib.hid ((own_bytes HOC.out (encode_lt _ H2.out.c.2)).below HB.out)
   have P3:=Lib.hid (own_bytes HOn.out (namesB_lt _))
   have HJ:=Lib.hid (show ∀ W,Below wr.heap.size wr W→Calls Tryz.prog 112 #[.slice aj m.js.length cj] W fun e w'=>∃ v,e=.returned v∧w'.ownsRow W.heap.size 5 1 v (4 * m.js.length) (encN .u8 (le4s m.js))∧Below W.heap.size W w' from fun W hW=>by
    refine (put_any aj cj m.js (words_lt H3.out.j) W (H3.out.j.1.below hW) (by omega)).mono ?_
    rintro e w' ⟨v',rfl,hown,hg⟩
    exact ⟨v',rfl,own_from hown (fun g e=>(hg.2 g e).resolve_left (by simp [Value.ownBlock])),hg.bel⟩)
   have HS1:=Lib.hid (show wr.drew.cell? ⟨w.heap.size,1,none⟩=some (.slice aj m.js.length cj)∧wr.drew.cell? ⟨w.heap.size,2,none⟩=some (.slice ad m.data.length cd)∧Below wr.heap.size wr wr.drew from ⟨e1,e2,Bel.dr (Below.refl _ _)⟩)
   have KC:=Lib.hid (show ∀ W W':World,Below W.heap.size W W'→(W.cell? ⟨w.heap.size,1,none⟩=some (.slice aj m.js.length cj)∧W.cell? ⟨w.heap.size,2,none⟩=some (.slice ad m.data.length cd)∧Below wr.heap.size wr W)→(W'.cell? ⟨w.heap.size,1,none⟩=some (.slice aj m.js.length cj)∧W'.cell? ⟨w.heap.size,2,none⟩=some (.slice ad m.data.length cd)∧Below wr.heap.size wr W') from
    fun W W' hb ⟨x1,x2,x3⟩=>⟨(hb.cell (p:=⟨w.heap.size,1,none⟩) (Nat.lt_of_lt_of_le hs3 x3.size)).trans x1,(hb.cell (p:=⟨w.heap.size,2,none⟩) (Nat.lt_of_lt_of_le hs3 x3.size)).trans x2,Bel.tr x3 hb⟩)
   have HOC0:=Lib.hid HB.out
   clear d0 d1 d2 d3 d4 d5
   go_wp2_with fail
   go_region_held3 (fun w'=>w'.cell? ⟨w.heap.size,1,none⟩=some (.slice aj m.js.length cj)∧w'.cell? ⟨w.heap.size,2,none⟩=some (.slice ad m.data.length cd)∧Below wr.heap.size wr w')
    (first|exact HS1.out|assumption|exact KC.out _ _ (Bel.new _ _) (by assumption)|exact KC.out _ _ (by assumption) (by assumption))
    ((go_at_call 112;refine (HJ.out _ ?_).mono ?_;(repeat (first|exact Below.refl _ _|assumption|(with_reducible refine Bel.al ?_ _)|(with_reducible refine Bel.dr ?_)|(with_reducible refine bel_by ?_)|(with_reducible refine Bel.tr ?_ (by assumption))));rintro e w3 ⟨vj,rfl,oj,hbj⟩;obtain ⟨aj',cj',rfl,-⟩:=own_sl oj))
   have HBJ:=Lib.hid (show Below wr.heap.size wr w3 from by (repeat (first|exact Below.refl _ _|assumption|(with_reducible refine Bel.al ?_ _)|(with_reducible refine Bel.dr ?_)|(with_reducible refine bel_by ?_)|(with_reducible refine Bel.tr ?_ (by assumption)))))
   have PJ:=Lib.hid (own_bytes oj (le4s_lt _))
   have HL:=Lib.hid (lists4 w3 _ _ _ _ _ _ _ _ (P0.out.below HBJ.out) PJ.out (H3.out.d.below HBJ.out) (P3.out.below HBJ.out))
   obtain ⟨q4,hq4⟩:∃ q4,q4=w3.heap.size:=⟨_,rfl⟩
   obtain ⟨W4,hW4⟩:∃ W4,W4=w3.alloc (.cells #[.slice auc (encode m.code).length cuc,.slice aj' (4 * m.js.length) cj',.slice ad m.data.length cd,.slice au (namesB m.lx).length cu] 24):=⟨_,rfl⟩
   have HB4:Hid (Below w.heap.size w W4):=Lib.hid (by rw [hW4];exact Bel.al (Bel.tr (Bel.tr (Bel.tr (HB1.out) HB2.out) HB.out) HBJ.out) _)
   have HB34:Hid (Below wr.heap.size wr W4):=Lib.hid (by rw [hW4];exact Bel.al HBJ.out _)
   have f0:=(HB34.out.cell (p:=⟨w.heap.size,0,none⟩) hs3).trans e0
   have f3:=(HB34.out.cell (p:=⟨w.heap.size,3,none⟩) hs3).trans e3
   have f4:=(HB34.out.cell (p:=⟨w.heap.size,4,none⟩) hs3).trans e4
   have hs4:w.heap.size<W4.heap.size:=Nat.lt_of_lt_of_le hs3 HB34.out.size
   have HL4:Hid (ListsB W4 q4 [.slice auc (encode m.code).length cuc,.slice aj' (4 * m.js.length) cj',.slice ad m.data.length cd,.slice au (namesB m.lx).length cu] (partsI m)):=Lib.hid (by rw [hW4,hq4];exact HL.out)
   have L0:=encode_len m.code
   have L1:=le4s_length m.js
   have L3:=Hnl.out m.lx.length (Nat.le_refl _)
   rw [List.take_length] at L3
   unfold roomN at hc5
   have HLs:Hid (∀ k,((partsI m).getD k []).length≤200000):=Lib.hid (fun k=>by
    unfold partsI
    match k with
    | 0=>simp;omega
    | 1=>simp;omega
    | 2=>simp;omega
    | 3=>simp;omega
    | k+4=>simp)
   have HLsum:Hid (((partsI m).map List.length).sum≤800000):=Lib.hid (by
    unfold partsI
    simp only [List.map_cons,List.map_nil,List.sum_cons,List.sum_nil]
    omega)
   have Hz:=H3.out.z
   have Hst:=H3.out.s
   rw [← hW4,← hq4]
   clear hW4 hq4 HL P0 PJ P3 H3 HJ KC HS1 e0 e1 e2 e3 e4 HOn HOC HB1 HB2 HB HBJ HB34 oj HO HOC0 H2 H1 Henc Hnl hc2 hc4 hc7 L0 L1 L3
   obtain ⟨j0,hj,hy0,hy1,hy2⟩:=info_parts info32
   have hqlt:=HL4.out.hq
   go_wp2_with fail
   go_loopw [12,70] (fun u i wx=>∃ k:Nat,k≤4∧i=.int .i64 k∧wx.ownsRow W4.heap.size 25 1 u k (encN .u32 (((partsI m).map List.length).take k))∧Below W4.heap.size W4 wx) (fun _ i _=>4 - (intOf i).toNat)
   case atStart=>exact ⟨0,by omega,rfl,World.ownsRow_nil _ _ _ _,Below.refl _ _⟩
   case round =>
    obtain ⟨k,hk,rfl,ho,hb⟩:=hrel
    have HO:=Lib.hid ho
    have HB:=Lib.hid hb
    have HOo:=Lib.hid (own_base ho)
    clear ho hb
    by_cases hlt:k<4
    ·obtain ⟨ak,ck,hcell,-⟩:=HL4.out.at k hlt
     have hcell':=(HB.out.cell (p:=⟨q4,k,none⟩) hqlt).trans hcell
     have Ht:Hid (((partsI m).map List.length).take (k+1)=((partsI m).map List.length).take k++[((partsI m).getD k []).length]):=Lib.hid (by
      have hk4:k<(partsI m).length:=hlt
      rw [List.take_add_one,List.getElem?_map,List.getElem?_eq_getElem hk4,List.getD_eq_getElem?_getD,List.getElem?_eq_getElem hk4]
      rfl)
     have hle:=HLs.out k
     clear hcell
     generalize (partsI m).getD k []=pk at *
     have hw:IntKind.u32.wrap ((pk.length:Nat):Int)=((pk.length:Nat):Int):=u32_wrap _ (by omega)
     have hki:(k:Int)<4:=by omega
     have hk0:(0:Int)≤(k:Int):=by omega
     go_wp2_with ((with_reducible refine wpList_append1B (o:=⟨some 79,.call { callee:=.builtin .append,args:=#[.tmp 74,.tmp 78],argTypes:=#[23,23] },_,_,_,none⟩) rfl _ _ 23 rfl 25 j0 (.int .u32 0) 1 4 Tryz.underlying23 hj hy0 hy1 hy2 ?_ ?_ _ _ _ HOo.out _ _ wr.heap.size ?_ ?_ ?_ ?_ ?_ ?_ ?_ ?_);rfl;decide;rfl;rfl;rfl;rfl;(simp [Value.oneCell']);(unfold maxLen;omega);omega;intro g c w5 hr1 hg1 hl1)
     go_roundw
     case rel=>exact ⟨k+1,by omega,by go_num,by
      rw [Ht.out,encN_append]
      exact own_from hr1 (fun g' e=>by
       rcases hg1.2 g' e with h'|h'
       ·exact (HO.out.lt g' h').1
       ·have:=HB.out.size;omega),HB.out.grown hg1.1 HB.out.size (fun g' e=>(HO.out.lt g' e).1)⟩
     case measure=>simp [intOf];omega
    ·obtain rfl:k=4:=by omega
     have hl4:((partsI m).map List.length).length=4:=rfl
     have HW:=Lib.hid (show Words wr (u12) ((partsI m).map List.length) from by
      have h:=HO.out
      rw [List.take_of_length_le (Nat.le_of_eq hl4)] at h
      exact ⟨Reads.own (own_base h) (by decide),fun j=>by
       have:=HLs.out j
       have e:((partsI m).map List.length).getD j 0=((partsI m).getD j []).length:=by
        simp only [List.getD_eq_getElem?_getD,List.getElem?_map]
        cases (partsI m)[j]? <;> rfl
       omega⟩)
     have HY:=Lib.hid (laySpans_any _ 64 ((partsI m).map List.length) (by rw [hl4];decide) (by have:=HLsum.out;omega) wr HW.out)
     have g0:=(HB.out.cell (p:=⟨w.heap.size,0,none⟩) hs4).trans f0
     have g3:=(HB.out.cell (p:=⟨w.heap.size,3,none⟩) hs4).trans f3
     have g4:=(HB.out.cell (p:=⟨w.heap.size,4,none⟩) hs4).trans f4
     have hs5:w.heap.size<wr.heap.size:=Nat.lt_of_lt_of_le hs4 HB.out.size
     clear f0 f3 f4 HW HO HOo
     go_wp2_with fail
     refine HY.out.mono ?_
     rintro e w5 ⟨us,rfl,os,hb5⟩
     have HOS:=Lib.hid os
     have HB5:=Lib.hid hb5
     obtain ⟨sa,sc,rfl,-⟩:=own_sl os
     have h0:=(hb5.cell (p:=⟨w.heap.size,0,none⟩) hs5).trans g0
     have h3:=(hb5.cell (p:=⟨w.heap.size,3,none⟩) hs5).trans g3
     have h4:=(hb5.cell (p:=⟨w.heap.size,4,none⟩) hs5).trans g4
     have hs6:w.heap.size<w5.heap.size:=Nat.lt_of_lt_of_le hs5 hb5.size
     clear g0 g3 g4 os hb5 HY
     have hwc:IntKind.u32.wrap ((m.code.length:Nat):Int)=((m.code.length:Nat):Int):=u32_wrap _ (by omega)
     have hcc:=Go.Lib.run_convert_bytes_const (P:=Tryz.prog) w5 24 5 #[.int .u8 80,.int .u8 69,.int .u8 78,.int .u8 33] 4 4 Tryz.underlying24 Tryz.underlying5
     go_wp2_with fail
     refine (put_at [1,0,m.code.length] ?_ ?_ ?_ ?_ ?_).mono ?_
     ·simp;omega
     ·simp
     ·simp
     ·rfl
     ·rfl
     rintro e w6 ⟨uh,rfl,oh,hb6⟩
     obtain ⟨ha,hcp,rfl,-⟩:=own_sl oh
     have PH:=Lib.hid (own_bytes oh (le4s_lt _))
     have P4:=Lib.hid ((bytes_new [80,69,78,33] (by decide) (by decide) w5 4 rfl _ _ rfl).below hb6)
     have HB6:=Lib.hid (Bel.tr (Bel.new _ _) hb6)
     have HL6:=Lib.hid (HL4.out.below (Bel.tr (Bel.tr HB.out HB5.out) HB6.out))
     have HBw6:=Lib.hid (Bel.tr (Bel.tr (Bel.tr HB4.out HB.out) HB5.out) HB6.out)
     clear oh hb6
     go_wp2_with fail
     refine (concat2 w6 _ _ [80,69,78,33] (le4s [1,0,m.code.length]) (by rw [List.length_append,le4s_length];simp) P4.out PH.out).mono ?_
     rintro e w7 ⟨ux,rfl,ox,hb7⟩
     obtain ⟨sp,hsp⟩:∃ sp,sp=spansL 64 ((partsI m).map List.length):=⟨_,rfl⟩
     have Hspl:sp.length=4:=by rw [hsp,spansL_length];exact hl4
     have Hspb:=Lib.hid (spansL_lt 4294967296 ((partsI m).map List.length) 64 (by have:=HLsum.out;omega))
     rw [← hsp] at HOS Hspb
     have Hsp:=Lib.hid hsp
     have HX:=Lib.hid (show w7.ownsRow w6.heap.size 5 1 ux (16+8 * 0) (encN .u8 (headI m++flatS (sp.take 0))) from by
      rw [show (([80,69,78,33]:List Nat)++le4s [1,0,m.code.length]).length=16+8 * 0 from by rw [List.length_append,le4s_length];rfl] at ox
      rw [List.take_zero,show flatS []=[] from rfl,List.append_nil]
      exact ox)
     have HHl:Hid ((headI m).length=16):=Lib.hid (by unfold headI;rw [List.length_append,le4s_length];rfl)
     have HB7:=Lib.hid hb7
     have PS:=Lib.hid (Reads.own (own_base HOS.out) (by decide):Reads w5 2 (.slice sa ((partsI m).map List.length).length sc) _ _)
     clear hsp ox hb7 P4 PH
     rw [hl4] at PS
     obtain ⟨i0,hi,hz0,hz1,hz2⟩:=info_parts info5
     obtain ⟨a',c',he,-,-,-,-,hp⟩:=PS.out
     cases he
     obtain ⟨b5,o5,rfl,hbl5,hc⟩:=hp (by decide)
     have HC5:=Lib.hid hc
     have hb56:b5<w6.heap.size:=Nat.lt_of_lt_of_le hbl5 HB6.out.size
     have hs7:w.heap.size<w6.heap.size:=Nat.lt_of_lt_of_le hs6 HB6.out.size
     clear hp hc PS HOS
     go_wp2_with fail
     go_loopw [16,101] (fun u i wr=>∃ k:Nat,k≤4∧i=.int .i64 k∧wr.ownsRow w6.heap.size 5 1 u (16+8 * k) (encN .u8 (headI m++flatS (sp.take k)))∧Below w6.heap.size w6 wr) (fun _ i _=>4 - (intOf i).toNat)
     case atStart=>exact ⟨0,by omega,rfl,HX.out,HB7.out⟩
     case round =>
      obtain ⟨k,hk,rfl,ho,hb⟩:=hrel
      have HO:=Lib.hid ho
      have HB:=Lib.hid hb
      clear ho hb
      by_cases hlt:k<4
      ·obtain ⟨x1,x2⟩:=encS_at sp k (by omega)
       have n0:=(HB.out.cell (p:=⟨b5,o5+k * 2,none⟩) hb56).trans ((HB6.out.cell (p:=⟨b5,o5+k * 2,none⟩) hbl5).trans ((HC5.out (k * 2) (by rw [encS_length];omega)).trans x1))
       have n1:wr.cell? ⟨b5,o5+k * 2+1,none⟩=some (.int .u32 (sp.getD k (0,0)).2):=(HB.out.cell (p:=⟨b5,o5+k * 2+1,none⟩) hb56).trans ((HB6.out.cell (p:=⟨b5,o5+k * 2+1,none⟩) hbl5).trans ((by rw [Nat.add_assoc];exact HC5.out (k * 2+1) (by rw [encS_length];omega):w5.cell? ⟨b5,o5+k * 2+1,none⟩=_).trans x2))
       have Ht:=Lib.hid (flatS_take sp k (by omega))
       have hlt1:(sp.getD k (0,0)).1<4294967296∧(sp.getD k (0,0)).2<4294967296:=by
        have hks:k<sp.length:=by omega
        rw [List.getD_eq_getElem?_getD,List.getElem?_eq_getElem hks]
        exact Hspb.out _ (List.getElem_mem hks)
       clear x1 x2
       generalize sp.getD k (0,0)=sk at *
       obtain ⟨s1,s2⟩:=sk
       simp only at *
       have hki:(k:Int)<4:=by omega
       have hk0:(0:Int)≤(k:Int):=by omega
       obtain ⟨au2,cu2,rfl,-⟩:=own_sl HO.out
       go_wp2_with fail
       refine (put_at [s1,s2] ?_ ?_ ?_ ?_ ?_).mono ?_
       ·simp;omega
       ·simp
       ·simp
       ·rfl
       ·rfl
       rintro e w8 ⟨up,rfl,op,hb8⟩
       have HBc:=Lib.hid (Bel.of hb8)
       have HOc:=Lib.hid (own_below (own_base HO.out) HBc.out)
       have Hop:Hid (Reads w8 1 up 8 (encN .u8 (le4s [s1,s2]))):=Lib.hid (Reads.own (own_base op) (by decide))
       have Hone:=Lib.hid (encN_one .u8 (le4s [s1,s2]))
       clear op hb8
       go_wp2_with ((with_reducible refine wpList_append_reads (o:=⟨some 112,.call { callee:=.builtin .append,args:=#[.tmp 105,.tmp 111],argTypes:=#[24,24] },_,_,_,none⟩) rfl _ _ 24 rfl 5 i0 (.int .u8 0) 1 1 Tryz.underlying24 hi hz0 hz1 hz2 ?_ ?_ _ _ _ ?_ HOc.out _ _ _ ?_ Hop.out Hone.out ?_ ?_ ?_);rfl;decide;rfl;rfl;(unfold maxLen;omega);omega;intro v3 w9 o3 g3)
       have HB9:=Lib.hid (Bel.tr HB.out HBc.out)
       go_roundw
       case rel=>exact ⟨k+1,by omega,by go_num,by
        rw [Ht.out,← List.append_assoc,encN_append,show 16+8 * (k+1)=16+8 * k+8 from by omega]
        exact own_from o3 (fun g e=>by
         rcases g3.2 g e with h'|h'
         ·exact (HO.out.lt g h').1
         ·have:=HB9.out.size;omega),HB9.out.grown g3.1 HB9.out.size (fun g e=>(HO.out.lt g e).1)⟩
       case measure=>simp [intOf];omega
      ·obtain rfl:k=4:=by omega
       have htk:sp.take 4=sp:=List.take_of_length_le (by omega)
       have HO2:=Lib.hid (show wr.ownsRow w6.heap.size 5 1 u16 48 (encN .u8 (headI m++flatS sp)) from by
        have:=HO.out
        rwa [htk] at this)
       have i3:=(HB.out.cell (p:=⟨w.heap.size,3,none⟩) hs7).trans ((HB6.out.cell (p:=⟨w.heap.size,3,none⟩) hs6).trans h3)
       have i4:=(HB.out.cell (p:=⟨w.heap.size,4,none⟩) hs7).trans ((HB6.out.cell (p:=⟨w.heap.size,4,none⟩) hs6).trans h4)
       clear HO htk h3 h4 HX HC5 h0
       obtain ⟨au2,cu2,rfl,-⟩:=own_sl HO2.out
       go_wp2_with fail
       refine (put_at [m.zero,m.stack,0,0] ?_ ?_ ?_ ?_ ?_).mono ?_
       ·simp;omega
       ·simp
       ·rfl
       ·rfl
       ·rfl
       rintro e w8 ⟨up,rfl,op,hb8⟩
       have HBc:=Lib.hid (hb8)
       have HOc:=Lib.hid (own_below (own_base HO2.out) HBc.out)
       have Hop:Hid (Reads w8 1 up 16 (encN .u8 (le4s [m.zero,m.stack,0,0]))):=Lib.hid (Reads.own (own_base op) (by decide))
       have Hone:=Lib.hid (encN_one .u8 (le4s [m.zero,m.stack,0,0]))
       clear op hb8
       go_wp2_with ((with_reducible refine wpList_append_reads (o:=⟨some 121,.call { callee:=.builtin .append,args:=#[.tmp 114,.tmp 120],argTypes:=#[24,24] },_,_,_,none⟩) rfl _ _ 24 rfl 5 i0 (.int .u8 0) 1 1 Tryz.underlying24 hi hz0 hz1 hz2 ?_ ?_ _ _ _ ?_ HOc.out _ _ _ ?_ Hop.out Hone.out ?_ ?_ ?_);rfl;decide;rfl;rfl;(unfold maxLen;omega);omega;intro v3 w9 o3 g3)
       have HB9:=Lib.hid ((Bel.tr HB.out HBc.out).grown g3.1 (Bel.tr HB.out HBc.out).size (fun g e=>(HO2.out.lt g e).1))
       have HX9:=Lib.hid (show w9.ownsRow w6.heap.size 5 1 v3 64 (encN .u8 (headI m++flatS sp++le4s [m.zero,m.stack,0,0])) from by
        rw [encN_append]
        exact own_from o3 (fun g e=>by
         rcases g3.2 g e with h'|h'
         ·exact (HO2.out.lt g h').1
         ·have:=(Bel.tr HB.out HBc.out).size;omega))
       have HHr:Hid (headI m++flatS sp++le4s [m.zero,m.stack,0,0]++(partsI m).flatten=rawI m):=Lib.hid (by
        rw [rawI,Hsp.out,flatS,List.flatMap_id,List.append_assoc,List.append_assoc])
       have HLl:Hid ((headI m++flatS sp++le4s [m.zero,m.stack,0,0]).length=64∧∀ x ∈ headI m++flatS sp++le4s [m.zero,m.stack,0,0],x<256):=Lib.hid ⟨by
        rw [List.length_append,List.length_append,le4s_length,flatS_length,HHl.out,Hspl];rfl,fun x hx=>by
        rcases List.mem_append.1 hx with hx|hx
        ·rcases List.mem_append.1 hx with hx|hx
         ·unfold headI at hx
          rcases List.mem_append.1 hx with hx|hx
          ·have:∀ y ∈ ([80,69,78,33]:List Nat),y<256:=by decide
           exact this x hx
          ·exact le4s_lt _ x hx
         ·exact flatS_lt _ x hx
        ·exact le4s_lt _ x hx⟩
       clear HO2 i3 i4 HB HBc HOc Hop Hone o3 g3
       generalize headI m++flatS sp++le4s [m.zero,m.stack,0,0]=Lp at *
       have HPt:Hid ((partsI m).flatten.length≤800000):=Lib.hid (by rw [List.length_flatten];exact HLsum.out)
       go_loopw [16,124] (fun u i wr=>∃ k N:Nat,k≤4∧i=.int .i64 k∧N=((partsI m).take k).flatten.length∧wr.ownsRow w6.heap.size 5 1 u (64+N) (encN .u8 (Lp++((partsI m).take k).flatten))∧Below w6.heap.size w6 wr) (fun _ i _=>4 - (intOf i).toNat)
       case atStart=>exact ⟨0,0,by omega,rfl,rfl,by rw [List.take_zero,List.flatten_nil,List.append_nil];exact HX9.out,HB9.out⟩
       case round =>
        obtain ⟨k,N,hk,rfl,hN,ho,hb⟩:=hrel
        have HO:=Lib.hid ho
        have HB:=Lib.hid hb
        have HN:=Lib.hid hN
        clear ho hb hN
        by_cases hlt:k<4
        ·have hkl:k<(partsI m).length:=hlt
         obtain ⟨ak,ck,hcell,hbs⟩:=HL6.out.at k hkl
         have hcell':=(HB.out.cell (p:=⟨q4,k,none⟩) HL6.out.hq).trans hcell
         have Hbs:=Lib.hid ((hbs.below HB.out).1)
         have Ht:=Lib.hid (flat_take (partsI m) k hkl)
         have hle:=flat_le (partsI m) (k+1)
         rw [Ht.out,List.length_append,← HN.out] at hle
         have hle2:N+((partsI m).getD k []).length≤800000:=Nat.le_trans hle HPt.out
         clear hcell hbs hle hkl
         generalize (partsI m).getD k []=pk at *
         have Hone:=Lib.hid (encN_one .u8 pk)
         have HOo:=Lib.hid (own_base HO.out)
         have hki:(k:Int)<4:=by omega
         have hk0:(0:Int)≤(k:Int):=by omega
         obtain ⟨au2,cu2,rfl,-⟩:=own_sl HO.out
         go_wp2_with ((with_reducible refine wpList_append_reads (o:=⟨some 130,.call { callee:=.builtin .append,args:=#[.tmp 128,.tmp 129],argTypes:=#[24,24] },_,_,_,none⟩) rfl _ _ 24 rfl 5 i0 (.int .u8 0) 1 1 Tryz.underlying24 hi hz0 hz1 hz2 ?_ ?_ _ _ _ ?_ HOo.out _ _ _ ?_ Hbs.out Hone.out ?_ ?_ ?_);rfl;decide;rfl;rfl;(unfold maxLen;omega);omega;intro v4 w10 o4 g4)
         go_roundw
         case rel=>exact ⟨k+1,N+pk.length,by omega,by go_num,by rw [Ht.out,List.length_append,← HN.out],by
          rw [Ht.out,← List.append_assoc,encN_append,← Nat.add_assoc]
          exact own_from o4 (fun g e=>by
           rcases g4.2 g e with h'|h'
           ·exact (HO.out.lt g h').1
           ·have:=HB.out.size;omega),HB.out.grown g4.1 HB.out.size (fun g e=>(HO.out.lt g e).1)⟩
         case measure=>simp [intOf];omega
        ·obtain rfl:k=4:=by omega
         have htk:(partsI m).take 4=partsI m:=List.take_of_length_le (Nat.le_refl 4)
         have hO:=HO.out
         have hn:=HN.out
         have hLl:=HLl.out
         rw [htk] at hO hn
         have hplt:∀ x ∈ (partsI m).flatten,x<256:=by
          intro x hx
          obtain ⟨l,hl,hx⟩:=List.mem_flatten.1 hx
          obtain ⟨j,hj,rfl⟩:=List.getElem_of_mem hl
          obtain ⟨_,_,_,hbs⟩:=HL6.out.at j hj
          have:=hbs.2
          rw [List.getD_eq_getElem?_getD,List.getElem?_eq_getElem hj] at this
          exact this x hx
         have HS:=Lib.hid (sealed_any u16 (Lp++(partsI m).flatten) (by rw [List.length_append];omega) (by have:=HPt.out;rw [List.length_append];omega) wr (own_bytes hO (fun x hx=>(List.mem_append.1 hx).elim (hLl.2 x) (hplt x))))
         rw [HHr.out] at HS
         clear hO hn hLl htk hplt
         go_wp2_with fail
         refine HS.out.mono ?_
         rintro e w11 ⟨uz,rfl,oz,hbz⟩
         go_wp2_with fail
         go_ret2
         exact ⟨_,rfl,own_down oz (Bel.tr HBw6.out HB.out).size,Bel.tr (Bel.tr HBw6.out HB.out) hbz⟩
end Go.Proofs.YtdffaepbkecoeaaGreat
namespace Go.Proofs.YtdffaepbkecoeaaGreat
open Go.RowKit
set_option linter.unusedVariables false
def bitsFrom (n:Nat):Nat→Nat→Nat
 | 0,k=>k
 | f+1,k=>if 2 ^ k<n then bitsFrom n f (k+1) else k
def bitsI (m:Img):Nat:=bitsFrom (roomN m) 8 8
theorem bitsFrom_spec (n:Nat):∀ (f k:Nat),n≤2 ^ (k+f)→k≤bitsFrom n f k∧bitsFrom n f k≤k+f∧n≤2 ^ bitsFrom n f k
 | 0,k,h=>⟨Nat.le_refl _,Nat.le_refl _,h⟩
 | f+1,k,h=>by
  unfold bitsFrom
  split
  ·obtain ⟨h1,h2,h3⟩:=bitsFrom_spec n f (k+1) (by rw [show k+1+f=k+(f+1) from by omega];exact h)
   exact ⟨by omega,by omega,h3⟩
  ·exact ⟨Nat.le_refl _,by omega,by omega⟩
theorem bitsI_spec {m:Img} (h:roomN m≤65536):8≤bitsI m∧bitsI m≤16∧roomN m≤2 ^ bitsI m:=bitsFrom_spec (roomN m) 8 8 (by simpa using h)
theorem bits_any (vc vj vd vn:Value) (m:Img) (hm:checkI m=0) (hr:roomN m≤65536) (w:World) (h:ImgAt w vc vj vd vn m) :
 Calls Tryz.prog 60 #[.agg #[vc,vj,vd,.int .u32 m.zero,.int .u32 m.stack,vn]] w fun e w'=>e=.returned (.tuple #[.int .i64 (bitsI m),.int .i64 0])∧Below w.heap.size w w':=by
 have hb0:=Bel.new w (.cells #[vc,vj,vd,.int .u32 m.zero,.int .u32 m.stack,vn] 28)
 obtain ⟨W0,hW0⟩:∃ W0,W0=w.alloc (.cells #[vc,vj,vd,.int .u32 m.zero,.int .u32 m.stack,vn] 28):=⟨_,rfl⟩
 have HK:=Lib.hid (imgCheck_any vc vj vd vn m W0 (by rw [hW0];exact h.below hb0))
 rw [hm] at HK
 have HC:=Lib.hid (cells_new6 w vc vj vd (.int .u32 m.zero) (.int .u32 m.stack) vn 28)
 have HB0:=Lib.hid (show Below w.heap.size w W0 from by rw [hW0];exact hb0)
 have hs0:w.heap.size<W0.heap.size:=by rw [hW0];simp
 obtain ⟨ac,cc,rfl,-⟩:=h.c.1
 obtain ⟨aj,cj,rfl,-⟩:=h.j.1
 obtain ⟨ad,cd,rfl,-,-,hdm,-,-⟩:=h.d.1
 obtain ⟨an,cn,rfl,-⟩:=h.n.1
 have hz:=h.z
 have hst:=h.s
 have hdl:m.data.length≤9223372036854775807:=by unfold roomN at hr;omega
 have Hr:=Lib.hid hr
 have HR:=Lib.hid (fun W=>room_any m.data.length m.zero m.stack hdl hz hst W)
 have Hrn:=Lib.hid (show m.data.length+m.zero+m.stack=roomN m from rfl)
 obtain ⟨r,hrr⟩:∃ r,r=bitsI m:=⟨_,rfl⟩
 rw [← hrr]
 have Hrr:=Lib.hid (show r=bitsFrom (roomN m) 8 8 from hrr)
 clear h hb0 hr
 go_enter Tryz.func60,Tryz.ntmps60
 go_wp2_with fail
 rw [← hW0]
 refine HK.out.mono ?_
 rintro e w1 ⟨rfl,hb1⟩
 have c2:w1.cell? ⟨w.heap.size,2,none⟩=some (.slice ad m.data.length cd):=(hb1.cell (p:=⟨w.heap.size,2,none⟩) hs0).trans (by rw [hW0];exact HC.out.2.2.1)
 have c3:w1.cell? ⟨w.heap.size,3,none⟩=some (.int .u32 m.zero):=(hb1.cell (p:=⟨w.heap.size,3,none⟩) hs0).trans (by rw [hW0];exact HC.out.2.2.2.1)
 have c4:w1.cell? ⟨w.heap.size,4,none⟩=some (.int .u32 m.stack):=(hb1.cell (p:=⟨w.heap.size,4,none⟩) hs0).trans (by rw [hW0];exact HC.out.2.2.2.2.1)
 have HB1:=Lib.hid (Bel.tr HB0.out hb1)
 rw [Hrn.out] at HR
 clear hb1 hW0 HC HK hrr
 go_wp2_with fail
 have hle:roomN m≤65536:=Hr.out
 generalize roomN m=N at *
 go_loopw [5] (fun k wr=>∃ (j:Nat),k=.int .i64 j∧8≤j∧j≤16∧wr.cell? ⟨w.heap.size,2,none⟩=some (.slice ad m.data.length cd)∧wr.cell? ⟨w.heap.size,3,none⟩=some (.int .u32 m.zero)∧wr.cell? ⟨w.heap.size,4,none⟩=some (.int .u32 m.stack)∧Below w.heap.size w wr∧bitsFrom N (16 - j) j=r) (fun k _=>17 - (intOf k).toNat)
 case atStart=>exact ⟨8,rfl,by omega,by omega,c2,c3,c4,HB1.out,Hrr.out.symm⟩
 case round =>
  obtain ⟨j,rfl,hj1,hj2,d2,d3,d4,hbw,hbj⟩:=hrel
  have Hbj:=Lib.hid hbj
  have Hbw:=Lib.hid hbw
  clear hbj c2 c3 c4 hbw
  have hj:j=8 ∨ j=9 ∨ j=10 ∨ j=11 ∨ j=12 ∨ j=13 ∨ j=14 ∨ j=15 ∨ j=16:=by omega
  have HS:=Lib.hid (show wr.cell? ⟨w.heap.size,2,none⟩=some (.slice ad m.data.length cd)∧wr.cell? ⟨w.heap.size,3,none⟩=some (.int .u32 m.zero)∧wr.cell? ⟨w.heap.size,4,none⟩=some (.int .u32 m.stack) from ⟨d2,d3,d4⟩)
  have w8:IntKind.u64.wrap 256=256:=by decide
  have w9:IntKind.u64.wrap 512=512:=by decide
  have w10:IntKind.u64.wrap 1024=1024:=by decide
  have w11:IntKind.u64.wrap 2048=2048:=by decide
  have w12:IntKind.u64.wrap 4096=4096:=by decide
  have w13:IntKind.u64.wrap 8192=8192:=by decide
  have w14:IntKind.u64.wrap 16384=16384:=by decide
  have w15:IntKind.u64.wrap 32768=32768:=by decide
  have w16:IntKind.u64.wrap 65536=65536:=by decide
  have hb:=Hbj.out
  obtain ⟨M,hM⟩:∃ M:Nat,M=2 ^ j:=⟨_,rfl⟩
  have HM:=Lib.hid hM
  by_cases hlt:2 ^ j<N
  ·have hj16:j<16:=by
    by_cases e:j=16
    ·subst e;simp at hlt;omega
    ·omega
   have hbn:bitsFrom N (16 - (j+1)) (j+1)=r:=by
    rw [← hb,show 16 - j=(16 - (j+1))+1 from by omega,bitsFrom,if_pos hlt]
   have Hbn:=Lib.hid hbn
   have hN:M<N:=by rw [hM];exact hlt
   have hI:(M:Int)<(N:Int):=by omega
   have hdl:decide ((M:Int)<(N:Int))=true:=decide_eq_true hI
   clear hb hbn hlt hj1 hj2
   rcases hj with rfl|rfl|rfl|rfl|rfl|rfl|rfl|rfl|rfl
   all_goals first
    | omega
    | (simp only [Nat.reducePow] at hM
       subst hM
       go_wp2
       go_region_held3 (fun w'=>w'.cell? ⟨w.heap.size,2,none⟩=some (.slice ad m.data.length cd)∧w'.cell? ⟨w.heap.size,3,none⟩=some (.int .u32 m.zero)∧w'.cell? ⟨w.heap.size,4,none⟩=some (.int .u32 m.stack))
        (first|exact HS.out|assumption) ((go_at_call 100;refine (HR.out _).mono ?_;rintro e w' ⟨rfl,rfl⟩))
       go_wp2
       go_roundw
       case rel=>exact ⟨_,by go_num,by omega,by omega,d2,d3,d4,Hbw.out.drew,Hbn.out⟩
       case measure=>simp [intOf])
  ·have hbr:r=j:=by
    rw [← hb]
    cases hf:16 - j with
    | zero=>rfl
    | succ f=>rw [bitsFrom,if_neg hlt]
   have Hbr:=Lib.hid hbr
   have hN:¬ M<N:=by rw [hM];exact hlt
   have hI:¬ (M:Int)<(N:Int):=by omega
   have hdl:decide ((M:Int)<(N:Int))=false:=decide_eq_false hI
   clear hb hbr hlt hj1 hj2
   rcases hj with rfl|rfl|rfl|rfl|rfl|rfl|rfl|rfl|rfl
   all_goals
    simp only [Nat.reducePow] at hM
    subst hM
    go_wp2
    go_region_held3 (fun w'=>w'.cell? ⟨w.heap.size,2,none⟩=some (.slice ad m.data.length cd)∧w'.cell? ⟨w.heap.size,3,none⟩=some (.int .u32 m.zero)∧w'.cell? ⟨w.heap.size,4,none⟩=some (.int .u32 m.stack))
     (first|exact HS.out|assumption) ((go_at_call 100;refine (HR.out _).mono ?_;rintro e w' ⟨rfl,rfl⟩))
    go_wp2
    go_ret2
    exact ⟨by rw [Hbr.out];rfl,Hbw.out.drew⟩
attribute [local go_sem] Oper.semAt_some
structure DpsI (w:World) (code:List (Nat×Nat)) (js:List Nat) (R:List Int×List Int×Nat×Nat) (S B b gg:Nat) (vp:Value) (n:Nat) (A:World):Prop where
 bel:Below w.heap.size w A
 box:A.cell? ⟨w.heap.size,0,none⟩=some (.pointer (some ⟨gg,0,none⟩))
 kn:KnP B (S+2) b vp (psTo code code.length) A
 r2:A.cell? ⟨w.heap.size+1,0,none⟩=some (.slice none 0 0)
 r3:A.cell? ⟨w.heap.size+2,0,none⟩=some (.slice none 0 0)
 r4:A.cell? ⟨w.heap.size+3,0,none⟩=some (.int .i64 0)
 r5:A.cell? ⟨w.heap.size+4,0,none⟩=some (.int .i64 0)
 f2:A.frozen? ⟨w.heap.size+1,0,none⟩=false
 f3:A.frozen? ⟨w.heap.size+2,0,none⟩=false
 f4:A.frozen? ⟨w.heap.size+3,0,none⟩=false
 f5:A.frozen? ⟨w.heap.size+4,0,none⟩=false
 lt:S+2<A.heap.size
 st:∃ (D ms:List Int) (g c:Nat) (vm:Value),A.cell? ⟨S,0,none⟩=some (.slice (some ⟨g,0,none⟩) code.length c)∧A.cell? ⟨S+1,0,none⟩=some vm∧A.frozen? ⟨S+1,0,none⟩=false ∧
  A.ownsRow w.heap.size 3 1 (.slice (some ⟨g,0,none⟩) code.length c) code.length (encZ D)∧A.ownsRow w.heap.size 3 1 vm ms.length (encZ ms)∧Deps D∧ms.length=n ∧
  depthsN code js (((psTo code code.length).map (·.1)).drop n) D ms=R∧w.heap.size+5<g∧g<S∧(∀ q,vm.ownBlock=some q→S+2<q)
theorem DpsI.calm {w A C:World} {code:List (Nat×Nat)} {js:List Nat} {R:List Int×List Int×Nat×Nat} {S B b gg:Nat} {vp:Value} {n:Nat} (h:DpsI w code js R S B b gg vp n A) {m:Nat} (hm:w.heap.size≤m) (k:Calm m A C):DpsI w code js R S B b gg vp n C:=by
 obtain ⟨D,ms,g,c,vm,s1,s2,s3,s4,s5,s6,s7,s8,s9,s10,s11⟩:=h.st
 exact ⟨Calm.below h.bel ⟨k.os,k.tape,k.output,k.size,k.cells,fun i hi=>k.block i (by omega)⟩,k.cell h.box,⟨k.cell h.kn.1,k.cell h.kn.2.1,k.own h.kn.2.2⟩,k.cell h.r2,k.cell h.r3,k.cell h.r4,k.cell h.r5,
  (k.frozen h.r2).trans h.f2,(k.frozen h.r3).trans h.f3,(k.frozen h.r4).trans h.f4,(k.frozen h.r5).trans h.f5,Nat.lt_of_lt_of_le h.lt k.size,
  D,ms,g,c,vm,k.cell s1,k.cell s2,(k.frozen s2).trans s3,k.own s4,k.own s5,s6,s7,s8,s9,s10,s11⟩
def DpsPost (R:List Int×List Int×Nat×Nat) (w:World) (e:Ending) (w':World):Prop :=
 Below w.heap.size w w'∧((R.2.2.2≠0∧e=.returned (.tuple #[.slice none 0 0,.slice none 0 0,.int .i64 R.2.2.1,.int .i64 R.2.2.2])) ∨
  (R.2.2.2=0∧∃ vd vm,e=.returned (.tuple #[vd,vm,.int .i64 0,.int .i64 0])∧w'.ownsRow w.heap.size 3 1 vd R.1.length (encZ R.1)∧w'.ownsRow w.heap.size 3 1 vm R.2.1.length (encZ R.2.1)))
def DpsX (w:World) (R:List Int×List Int×Nat×Nat) (c:Code) (A:World):Prop :=
 c=.ret∧Below w.heap.size w A∧A.cell? ⟨w.heap.size+1,0,none⟩=some (.slice none 0 0)∧A.cell? ⟨w.heap.size+2,0,none⟩=some (.slice none 0 0) ∧
  A.cell? ⟨w.heap.size+3,0,none⟩=some (.int .i64 R.2.2.1)∧A.cell? ⟨w.heap.size+4,0,none⟩=some (.int .i64 R.2.2.2)∧R.2.2.2≠0
theorem DpsX.calm {w A C:World} {R:List Int×List Int×Nat×Nat} {c:Code} (h:DpsX w R c A) {m:Nat} (hm:w.heap.size≤m) (k:Calm m A C):DpsX w R c C :=
 ⟨h.1,Calm.below h.2.1 ⟨k.os,k.tape,k.output,k.size,k.cells,fun i hi=>k.block i (by omega)⟩,k.cell h.2.2.1,k.cell h.2.2.2.1,k.cell h.2.2.2.2.1,k.cell h.2.2.2.2.2.1,h.2.2.2.2.2.2⟩
theorem own_formB {w:World} {base e sz n:Nat} {v:Value} {xs:List Value} (h:w.ownsRow base e sz v n xs) (hn:0<n):∃ g cap,v=.slice (some ⟨g,0,none⟩) n cap∧base≤g∧g<w.heap.size:=by
 obtain ⟨hl,h⟩:=h
 rcases h with ⟨rfl,rfl⟩|⟨g,cap,cur,rfl,hb,hg,hn,hm,hcs,ht⟩
 ·omega
 ·exact ⟨g,cap,rfl,hb,(Array.getElem?_eq_some_iff.1 hg).1⟩
theorem own_cells {w:World} {base e sz n:Nat} {v:Value} {xs:List Value} (h:w.ownsRow base e sz v n xs):∀ (j:Nat) (o:Obj),v.ownBlock=some j→w.heap[j]?=some o→o.isCells=true:=by
 intro j o hj ho
 obtain ⟨hl,h⟩:=h
 rcases h with ⟨rfl,rfl⟩|⟨g,cap,cur,rfl,hb,hg,hn,hm,hcs,ht⟩
 ·cases hj
 ·simp only [Value.ownBlock,Option.some.injEq] at hj
  subst hj
  rw [hg] at ho;cases ho;rfl
theorem own_block {W:World} {B e g n c sz:Nat} {xs:List Value} (h:W.ownsRow B e sz (.slice (some ⟨g,0,none⟩) n c) n xs):∃ cur:Array Value,W.heap[g]?=some (.cells cur e (0,0))∧B≤g:=by
 obtain ⟨hl,⟨h,_⟩|⟨g',cap,cur,hv,hb,hg,hn,hm,hcs,ht⟩⟩:=h
 ·cases h
 ·cases hv;exact ⟨cur,hg,hb⟩
theorem nums_get {ps:List (Nat×Nat×Nat)} {pre rest:List (Nat×Nat×Nat×Nat)} {x:Nat×Nat×Nat×Nat} (h:nums ps=pre++x :: rest):pre.length<ps.length∧x.1=pre.length∧ps.getD pre.length (0,0,0)=x.2:=by
 have hl:pre.length<ps.length:=by rw [← nums_length ps,h];simp
 have h1:=nums_at ps pre.length hl
 rw [h,List.getElem?_append_right (Nat.le_refl _),Nat.sub_self] at h1
 simp only [List.getElem?_cons_zero,Option.some.injEq] at h1
 exact ⟨hl,by rw [h1],by rw [h1]⟩
theorem depths_any {w:World} {B gg b:Nat} {uc uj:Value} {code:List (Nat×Nat)} {js:List Nat} (hG:GraphAt w B gg b uc uj code js) (hok:FindOk code js [])
 (hlt:∀ k,(code.getD k (0,0)).1<256∧(code.getD k (0,0)).2<4294967296) :
 Calls Tryz.prog 110 #[.pointer (some ⟨gg,0,none⟩)] w (DpsPost (flowN code js) w):=by
 obtain ⟨ac,cc,hac,-,-,-⟩:=own_sl hG.oc
 have hg0:=hG.c0
 have hg2:=hG.c2
 rw [hac] at hg0
 have hgl:gg<w.heap.size:=World.block_lt_of_cell? _ _ hG.c0
 obtain ⟨W1,hW1⟩:∃ W1,W1=(((((w.alloc (.cells #[.pointer (some ⟨gg,0,none⟩)] 177)).alloc (.cells #[.slice none 0 0] 111)).alloc (.cells #[.slice none 0 0] 111)).alloc (.cells #[.int .i64 0] 3)).alloc (.cells #[.int .i64 0] 45)).alloc (.cells #[.int .i64 (-1)] 3):=⟨_,rfl⟩
 have hbw1:Below w.heap.size w W1:=by rw [hW1];exact Bel.al (Bel.al (Bel.al (Bel.al (Bel.al (Bel.new _ _) _) _) _) _) _
 have q0:=(hbw1.cell (p:=⟨gg,0,none⟩) hgl).trans hg0
 have q2:=(hbw1.cell (p:=⟨gg,2,none⟩) hgl).trans hg2
 rw [hW1] at q0 q2
 have hcl:=encRes_short hok.he
 have h3:=hok.h3
 have HG:=Lib.hid hG
 have Hok:=Lib.hid hok
 have Hlt:=Lib.hid hlt
 have H3:=Lib.hid h3
 obtain ⟨R,hR⟩:∃ R,R=flowN code js:=⟨_,rfl⟩
 rw [← hR]
 have HR:=Lib.hid hR
 clear hG hok hlt hac h3 hR
 refine (callsIn_wide (n:=9)).1 ?_
 have h1:(1:Nat)≤9:=by omega
 refine callsIn_of_wp_marks Tryz.func110 rfl trivial ?_ rfl
 simp only [Tryz.ntmps110,List.size_toArray,List.length_cons,List.length_nil,Nat.reduceAdd,Nat.reduceSub,Array.replicate_succ,Array.replicate_zero,List.push_toArray,List.append_toArray,List.nil_append,List.cons_append]
 gi_wp2_with fail
 rw [← hW1]
 have hx5:W1.cell? ⟨w.heap.size+1+1+1+1+1,0,none⟩=some (.int .i64 (-1)):=by rw [hW1];simp [go_sem]
 have hs1:W1.heap.size=w.heap.size+6:=by rw [hW1];simp
 have e0:W1.cell? ⟨w.heap.size,0,none⟩=some (.pointer (some ⟨gg,0,none⟩)):=by rw [hW1];simp [go_sem]
 have e2:W1.cell? ⟨w.heap.size+1,0,none⟩=some (.slice none 0 0):=by rw [hW1];simp [go_sem]
 have e3:W1.cell? ⟨w.heap.size+2,0,none⟩=some (.slice none 0 0):=by rw [hW1];simp [go_sem]
 have e4:W1.cell? ⟨w.heap.size+3,0,none⟩=some (.int .i64 0):=by rw [hW1];simp [go_sem]
 have e5:W1.cell? ⟨w.heap.size+4,0,none⟩=some (.int .i64 0):=by rw [hW1];simp [go_sem]
 have z2:W1.frozen? ⟨w.heap.size+1,0,none⟩=false:=by rw [hW1];simp [go_sem]
 have z3:W1.frozen? ⟨w.heap.size+2,0,none⟩=false:=by rw [hW1];simp [go_sem]
 have z4:W1.frozen? ⟨w.heap.size+3,0,none⟩=false:=by rw [hW1];simp [go_sem]
 have z5:W1.frozen? ⟨w.heap.size+4,0,none⟩=false:=by rw [hW1];simp [go_sem]
 have HRp:=Lib.hid (repeat_any hx5 code.length (by omega))
 have Hbw1:=Lib.hid hbw1
 clear hbw1 hW1 q0 q2 hx5
 refine ⟨trivial,?_⟩
 refine (callsIn_wide.2 HRp.out).mono ?_
 rintro e w2 ⟨vd,rfl,ho2,hb2⟩
 obtain ⟨ad,cd,rfl,-,-,hpd⟩:=own_sl ho2
 obtain ⟨g,rfl,hgd,-⟩:=hpd H3.out.1
 have hgS:g<w2.heap.size:=hgd
 have hg1:W1.heap.size≤g:=(ho2.lt g rfl).1
 obtain ⟨S,hS⟩:∃ S,S=w2.heap.size:=⟨_,rfl⟩
 have hbw2:Below w.heap.size w w2:=Bel.tr Hbw1.out hb2
 have hs2:=hb2.size
 obtain ⟨W5,hW5⟩:∃ W5,W5=((w2.alloc (.cells #[.slice (some ⟨g,0,none⟩) code.length cd] 111)).alloc (.cells #[.slice none 0 0] 111)):=⟨_,rfl⟩
 have hb5:Below w2.heap.size w2 W5:=by rw [hW5];exact Bel.al (Bel.new _ _) _
 have q0:=((Bel.tr hbw2 hb5).cell (p:=⟨gg,2,none⟩) hgl).trans hg2
 have qb:=(hb5.cell (p:=⟨w.heap.size,0,none⟩) (by show w.heap.size<w2.heap.size;omega)).trans ((hb2.cell (p:=⟨w.heap.size,0,none⟩) (by show w.heap.size<W1.heap.size;omega)).trans e0)
 rw [hW5] at q0 qb
 clear hpd hgd
 gi_wp2_with fail
 rw [← hW5]
 refine ⟨trivial,?_⟩
 refine (callsIn_wide.2 (all_any _ _)).mono ?_
 rintro e w6 ⟨rfl,rfl⟩
 have hs5:W5.heap.size=w2.heap.size+2:=by rw [hW5];simp
 obtain ⟨W6,hW6⟩:∃ W6,W6=W5.alloc (.cells #[.pointer (some ⟨b,0,none⟩)] 110):=⟨_,rfl⟩
 have hb6:Below w2.heap.size w2 W6:=by rw [hW6];exact Bel.al hb5 _
 have hbw6:Below w.heap.size w W6:=Bel.tr hbw2 hb6
 have hb16:Below W1.heap.size W1 W6:=Bel.tr hb2 hb6
 obtain ⟨B',hB',vp,vo,vt,us,hP⟩:=HG.out.p
 have hI0:DpsI w code js R w2.heap.size B' b gg vp 0 W6:=by
  have hp:=(hP.below hbw6)
  refine ⟨hbw6,?_,⟨?_,hp.c0,hp.op⟩,?_,?_,?_,?_,?_,?_,?_,?_,?_,List.replicate code.length (-1),[],g,cd,.slice none 0 0,?_,?_,?_,?_,World.ownsRow_nil _ _ _ _,deps_none _,rfl,?_,by omega,hgS,fun q e=>by cases e⟩
  ·exact (hb16.cell (p:=⟨w.heap.size,0,none⟩) (by show w.heap.size<W1.heap.size;omega)).trans e0
  ·rw [hW6,← hs5];simp [go_sem]
  ·exact (hb16.cell (p:=⟨w.heap.size+1,0,none⟩) (by show w.heap.size+1<W1.heap.size;omega)).trans e2
  ·exact (hb16.cell (p:=⟨w.heap.size+2,0,none⟩) (by show w.heap.size+2<W1.heap.size;omega)).trans e3
  ·exact (hb16.cell (p:=⟨w.heap.size+3,0,none⟩) (by show w.heap.size+3<W1.heap.size;omega)).trans e4
  ·exact (hb16.cell (p:=⟨w.heap.size+4,0,none⟩) (by show w.heap.size+4<W1.heap.size;omega)).trans e5
  ·exact (hb16.frozen (p:=⟨w.heap.size+1,0,none⟩) (by show w.heap.size+1<W1.heap.size;omega)).trans z2
  ·exact (hb16.frozen (p:=⟨w.heap.size+2,0,none⟩) (by show w.heap.size+2<W1.heap.size;omega)).trans z3
  ·exact (hb16.frozen (p:=⟨w.heap.size+3,0,none⟩) (by show w.heap.size+3<W1.heap.size;omega)).trans z4
  ·exact (hb16.frozen (p:=⟨w.heap.size+4,0,none⟩) (by show w.heap.size+4<W1.heap.size;omega)).trans z5
  ·rw [hW6,World.size_alloc,hs5];omega
  ·rw [hW6,hW5];simp [go_sem]
  ·rw [hW6,hW5];simp [go_sem]
  ·rw [hW6,hW5];simp [go_sem]
  ·rw [encZ_none]
   exact own_from (own_base (own_below ho2 hb6)) (fun q e=>by have:=((own_below ho2 hb6).lt q e).1;omega)
  ·rw [List.drop_zero];exact HR.out.symm
 have hsz6:w.heap.size≤W6.heap.size:=hbw6.size
 have HP:=Lib.hid hP
 rw [← hW6,hs5]
 clear hW6 hb16 hb6 hbw6 hP hs5 hb5 hW5 q0 qb e0 e2 e3 e4 e5 z2 z3 z4 z5 ho2 hg2 hg0
 gi_wp2_with fail
 refine range_to (gf:=166) (lb:=#[.pointer (some ⟨w2.heap.size+2,0,none⟩)]) rfl (enters_of Tryz.func166 (by kernel_rfl) rfl) (encs:=encP2) (fun _=>rfl) (nums (psTo code code.length)) _ _
  (all_seq 8 (by omega) B' _ b vp (psTo code code.length)) (fun A C h=>by rw [h];exact KeepsOthers.refl _)
  (fun d A=>DpsI w code js R w2.heap.size B' b gg vp d.length A) (DpsX w R) (fun d A C h k=>h.calm hsz6 k) (fun c A C h k=>h.calm hsz6 k) (fun d A h=>h.kn) hI0 ?round ?done ?stop
 case round =>
  rintro l' pre ⟨i,p0,p1,p2⟩ rest W hx hi hsz
  obtain ⟨hpl,hi1,hpp⟩:=nums_get hx
  simp only at hi1 hpp
  simp only [encP2,procV]
  gi_wp2
  refine ⟨KeepsOthers.alloc _ _,fun W2 hs2' hc2=>?_⟩
  have hi2:=hi.calm hsz6 ((Calm.of (Bel.new W (.cells #[.int .u32 p0,.int .u32 p1,.int .u32 p2,.int .i64 0] 126)) hsz).trans hc2)
  have hn0:W2.cell? ⟨W.heap.size,0,none⟩=some (.int .u32 p0):=hc2.cell (by simp [go_sem])
  obtain ⟨D,ms,g',c',vm,s1,s2,s3,s4,s5,s6,s7,s8,s9,s10,s11⟩:=hi2.st
  have hbd:=(Hok.out.tl.bd pre.length hpl)
  rw [hpp] at hbd
  simp only at hbd
  have hp0:p0<code.length:=by omega
  have hdr:((psTo code code.length).map (·.1)).drop pre.length=p0 :: ((psTo code code.length).map (·.1)).drop (pre.length+1):=by
   rw [List.drop_eq_getElem_cons (by simpa using hpl)]
   congr 1
   rw [List.getElem_map]
   rw [List.getD_eq_getElem?_getD,List.getElem?_eq_getElem hpl] at hpp
   simp only [Option.getD_some] at hpp
   rw [hpp]
  rw [hdr,depthsN] at s8
  have HW:=Lib.hid (walk_any HG.out hi2.bel Hok.out Hlt.out s4 s6 p0 hp0)
  generalize walkN code js (code.length+1) (D.set p0 0) [p0] 0=V at *
  obtain ⟨VD,VM,VA,VE⟩:=V
  simp only at HW s8
  have q1:=hi2.box
  have Hi2:=Lib.hid hi2
  have HS4:=Lib.hid s4
  have HS5:=Lib.hid s5
  have HS8:=Lib.hid s8
  have HC2:=Lib.hid hc2
  have hs2:=hs2'
  rw [World.size_alloc] at hs2
  have hWS:w2.heap.size+2<W2.heap.size:=hi2.lt
  clear hi hi2 s4 s5 s8 hc2 hx hdr hs2'
  gi_wp2_with fail
  refine ⟨trivial,(CallsIn.inRound l' (callsIn_wide.2 HW.out)).mono ?_⟩
  rintro e w5 ⟨D',rfl,ho5,hd5,hg5,heq⟩
  have hq:∀ k o,k<W2.heap.size→k≠g'→w5.cell? ⟨k,o,none⟩=W2.cell? ⟨k,o,none⟩:=fun k o h1 h2=>World.cell?_of_block (a:=⟨k,o,none⟩) (hg5.block k h1 (fun e=>h2 (by injection e)))
  have hqf:∀ k o,k<W2.heap.size→k≠g'→w5.frozen? ⟨k,o,none⟩=W2.frozen? ⟨k,o,none⟩:=fun k o h1 h2=>World.frozen?_of_block (a:=⟨k,o,none⟩) (hg5.block k h1 (fun e=>h2 (by injection e)))
  have hKO:KeepsOthers W2 w5:=KeepsOthers.of_grownBy hg5 (fun j o e ho=>by
   cases e
   obtain ⟨cur,hgc,-⟩:=own_block HS4.out
   rw [hgc] at ho;cases ho;rfl)
  have hbw5:Below w.heap.size w w5:=Hi2.out.bel.trans (grown_belowB hg5 Hi2.out.bel.size (by omega))
  have a2:=(hq (w.heap.size+1) 0 (by omega) (by omega)).trans Hi2.out.r2
  have a3:=(hq (w.heap.size+2) 0 (by omega) (by omega)).trans Hi2.out.r3
  have a4:=(hq (w.heap.size+3) 0 (by omega) (by omega)).trans Hi2.out.r4
  have a5:=(hq (w.heap.size+4) 0 (by omega) (by omega)).trans Hi2.out.r5
  have b2:=(hqf (w.heap.size+1) 0 (by omega) (by omega)).trans Hi2.out.f2
  have b3:=(hqf (w.heap.size+2) 0 (by omega) (by omega)).trans Hi2.out.f3
  have b4:=(hqf (w.heap.size+3) 0 (by omega) (by omega)).trans Hi2.out.f4
  have b5:=(hqf (w.heap.size+4) 0 (by omega) (by omega)).trans Hi2.out.f5
  have a7:=(hq (w2.heap.size+1) 0 (by omega) (by omega)).trans s2
  have b7:=(hqf (w2.heap.size+1) 0 (by omega) (by omega)).trans s3
  have Hq:=Lib.hid hq
  have Hqf:=Lib.hid hqf
  have HKO:=Lib.hid hKO
  have HB5:=Lib.hid hbw5
  have HO5:=Lib.hid ho5
  have HG5:=Lib.hid hg5
  have HEQ:=Lib.hid heq
  clear hq hqf hKO hbw5 ho5 hg5 heq HW
  by_cases hve:VE=0
  ·subst hve
   have hz:((0:Nat):Int)=0:=rfl
   rw [if_neg (by simp)] at HS8
   obtain ⟨j0,hj,hy0,hy1,hy2⟩:=info_parts info3'
   have hS3:w2.heap.size+3≤w5.heap.size:=Nat.le_trans hWS HG5.out.size
   have HM5:=Lib.hid (own_from (own_base (HS5.out.kept HG5.out (by
    cases hv:vm.ownBlock with
    | none=>exact .inl rfl
    | some q=>exact .inr (fun e=>by injection e with e;have:=s11 q hv;omega)))) (B:=w2.heap.size+3) (fun q e=>s11 q e))
   have hxa:=HM5.out.alloc (.cells #[.int .i64 VM] 3)
   have hnw:=news_new w5 #[.int .i64 VM] 3
   have hml:ms.length≤16384:=by have:=Hok.out.tl;have h5:=psTo_le code code.length;omega
   have HS7:=Lib.hid s7
   clear s7
   gi_wp2_with ((with_reducible refine wpListIn_append_own (o:=⟨some 44,.call { callee:=.builtin .append,args:=#[.tmp 41,.tmp 43],argTypes:=#[111,111] },_,_,_,none⟩) _ rfl _ _ 111 rfl (w2.heap.size+3) 3 j0 (.int .i64 0) 1 8 Tryz.underlying111 hj hy0 hy1 hy2 ?_ ?_ vm ms.length (encZ ms) ?_ hxa ⟨w5.heap.size,0,none⟩ 1 1 [.int .i64 VM] ?_ ?_ hnw ?_ ?_ ?_ ?_ ?_);rfl;decide;rfl;rfl;rfl;(simp [Value.oneCell']);(unfold maxLen;omega);omega;(simp;omega);intro v' w' r1 r2 r3;obtain ⟨gq,cq,rfl,hgq,hgq2⟩:=own_formB r1 (by omega);have hbb:Below (w2.heap.size+3) w5 w':=((Below.refl (w2.heap.size+3) w5).alloc hS3 (.cells #[.int .i64 VM] 3)).grown r2 (by rw [World.size_alloc];omega) (fun k e=>(HM5.out.lt k e).1);have hcx:=(hbb.cell (p:=⟨w2.heap.size+1,0,none⟩) (by show w2.heap.size+1<w2.heap.size+3;omega)).trans a7;have hfx:=(hbb.frozen (p:=⟨w2.heap.size+1,0,none⟩) (by show w2.heap.size+1<w2.heap.size+3;omega)).trans b7)
   have hbw:Below w.heap.size w w':=HB5.out.trans (hbb.mono (by omega))
   have hbws:=hbw.setCell (p:=⟨w2.heap.size+1,0,none⟩) (by show w.heap.size≤w2.heap.size+1;omega) (.slice (some ⟨gq,0,none⟩) (ms.length+1) cq)
   have hoth:∀ k,k<w2.heap.size+3→k≠w2.heap.size+1→(w'.setCell ⟨w2.heap.size+1,0,none⟩ (.slice (some ⟨gq,0,none⟩) (ms.length+1) cq)).cell? ⟨k,0,none⟩=w5.cell? ⟨k,0,none⟩:=fun k k1 k2 =>
    (World.cell?_of_block (a:=⟨k,0,none⟩) (Below.heap_setCell _ _ _ _ k2)).trans (hbb.cell (p:=⟨k,0,none⟩) k1)
   have hofr:∀ k,k<w2.heap.size+3→(w'.setCell ⟨w2.heap.size+1,0,none⟩ (.slice (some ⟨gq,0,none⟩) (ms.length+1) cq)).frozen? ⟨k,0,none⟩=w5.frozen? ⟨k,0,none⟩:=fun k k1=>by
    rw [World.frozen?_setCell];exact hbb.frozen (p:=⟨k,0,none⟩) k1
   have hP':=HP.out.below hbws
   have hsz5:=hbb.size
   have hrow:(w'.setCell ⟨w2.heap.size+1,0,none⟩ (.slice (some ⟨gq,0,none⟩) (ms.length+1) cq)).ownsRow w.heap.size 3 1 (.slice (some ⟨g',0,none⟩) code.length c') code.length (encZ D'):=by
    refine ownsRow_setCell_other ((HO5.out.alloc (.cells #[.int .i64 VM] 3)).kept r2 ?_) (fun e=>by simp only [Value.ownBlock,Option.some.injEq] at e;omega) _
    cases hv:vm.ownBlock with
    | none=>exact .inr (by simp [Value.ownBlock])
    | some q=>exact .inr (by simp only [Value.ownBlock];intro e;injection e with e;have:=(HM5.out.lt q hv).1;omega)
   have hneed:(w'.setCell ⟨w2.heap.size+1,0,none⟩ (.slice (some ⟨gq,0,none⟩) (ms.length+1) cq)).ownsRow w.heap.size 3 1 (.slice (some ⟨gq,0,none⟩) (ms.length+1) cq) (ms++[VM]).length (encZ (ms++[VM])):=by
    have h1:=ownsRow_setCell_other r1 (a:=⟨w2.heap.size+1,0,none⟩) (fun e=>by simp only [Value.ownBlock,Option.some.injEq] at e;omega) (.slice (some ⟨gq,0,none⟩) (ms.length+1) cq)
    have h2:=own_from (own_base h1) (B:=w.heap.size) (fun q e=>by simp only [Value.ownBlock,Option.some.injEq] at e;omega)
    rw [List.length_append]
    simpa [encZ] using h2
   have hkn:=Hi2.out.kn.1
   have hks:KeepsOthers W2 (w'.setCell ⟨w2.heap.size+1,0,none⟩ (.slice (some ⟨gq,0,none⟩) (ms.length+1) cq)):=HKO.out.trans ((KeepsOthers.alloc w5 _).trans ((KeepsOthers.of_grownBy r2 (own_cells hxa)).trans (KeepsOthers.setCell _ _ _)))
   refine ⟨hks,hbws,(hoth _ (by omega) (by omega)).trans ((Hq.out _ 0 (by omega) (by omega)).trans q1),⟨(hoth _ (by omega) (by omega)).trans ((Hq.out _ 0 (by omega) (by omega)).trans hkn),hP'.c0,hP'.op⟩,(hoth _ (by omega) (by omega)).trans a2,(hoth _ (by omega) (by omega)).trans a3,(hoth _ (by omega) (by omega)).trans a4,(hoth _ (by omega) (by omega)).trans a5,
    (hofr _ (by omega)).trans b2,(hofr _ (by omega)).trans b3,(hofr _ (by omega)).trans b4,(hofr _ (by omega)).trans b5,by rw [World.size_setCell];omega,
    D',ms++[VM],g',c',_,(hoth _ (by omega) (by omega)).trans ((Hq.out _ 0 (by omega) (by omega)).trans s1),World.cell?_setCell_same' _ _ _ (by rw [hcx];rfl),(hofr _ (by omega)).trans b7,hrow,hneed,hd5,by rw [List.length_append,List.length_append,HS7.out];rfl,?_,s9,s10,fun q e=>by simp only [Value.ownBlock,Option.some.injEq] at e;omega⟩
   rw [List.length_append]
   have h8:=HS8.out
   rw [HEQ.out trivial]
   exact h8
  ·have hne:((VE:Int) != 0)=true:=by simp;exact hve
   have hRe:R=([],[],VA,VE):=by rw [← HS8.out,if_pos hve]
   have HRe:=Lib.hid hRe
   have Hve:=Lib.hid hve
   clear hRe hve a7 b7
   gi_wp2
   have hcs:∀ k o,k<W2.heap.size→k≠g'→w5.cell? ⟨k,o,none⟩=W2.cell? ⟨k,o,none⟩:=Hq.out
   refine ⟨HKO.out.trans ((KeepsOthers.setCell _ _ _).trans ((KeepsOthers.setCell _ _ _).trans ((KeepsOthers.setCell _ _ _).trans (KeepsOthers.setCell _ _ _)))),rfl,?_,?_,?_,?_,?_,?_⟩
   ·exact (((HB5.out.setCell (p:=⟨w.heap.size+1,0,none⟩) (Nat.le_succ _) _).setCell (p:=⟨w.heap.size+1+1,0,none⟩) (by show w.heap.size≤w.heap.size+1+1;omega) _).setCell (p:=⟨w.heap.size+1+1+1,0,none⟩) (by show w.heap.size≤w.heap.size+1+1+1;omega) _).setCell (p:=⟨w.heap.size+1+1+1+1,0,none⟩) (by show w.heap.size≤w.heap.size+1+1+1+1;omega) _
   ·simp [go_sem,a2]
   ·simp [go_sem,a3]
   ·rw [HRe.out];simp [go_sem,a4]
   ·rw [HRe.out];simp [go_sem,a5]
   ·rw [HRe.out];exact Hve.out
 case done =>
  rintro Dd W2 W3 W4 hi rfl hc hD hd
  rename_i K hK
  refine hK _ _ (wpIn_wide.2 ?_)
  have hi4:=hi.calm hsz6 hc
  obtain ⟨D,ms,g',c',vm,s1,s2,s3,s4,s5,s6,s7,s8,s9,s10,s11⟩:=hi4.st
  rw [nums_length,List.drop_of_length_le (by simp),depthsN] at s8
  obtain ⟨av,cv,rfl,-⟩:=own_sl s5
  have HS4:=Lib.hid s4
  have HS5:=Lib.hid s5
  have HS8:=Lib.hid s8
  have Hi4:=Lib.hid hi4
  have Hd:=Lib.hid hd
  have x2:=hi4.r2
  have x3:=hi4.r3
  have x4:=hi4.r4
  have x5:=hi4.r5
  have y2:=hi4.f2
  have y3:=hi4.f3
  have y4:=hi4.f4
  have y5:=hi4.f5
  have hlw:=hi4.lt
  clear hi hi4 hc hd s4 s5 s8 s7
  have hle2:w.heap.size+6≤w2.heap.size:=by omega
  have HK0:=Lib.hid (show W4.cell? ⟨w2.heap.size,0,none⟩=some (.slice (some ⟨g',0,none⟩) code.length c')∧W4.cell? ⟨w2.heap.size+1,0,none⟩=some (.slice av ms.length cv) from ⟨s1,s2⟩)
  have HKd:=Lib.hid (show ∀ W':World,(W'.cell? ⟨w2.heap.size,0,none⟩=some (.slice (some ⟨g',0,none⟩) code.length c')∧W'.cell? ⟨w2.heap.size+1,0,none⟩=some (.slice av ms.length cv))→(W'.drew.cell? ⟨w2.heap.size,0,none⟩=some (.slice (some ⟨g',0,none⟩) code.length c')∧W'.drew.cell? ⟨w2.heap.size+1,0,none⟩=some (.slice av ms.length cv)) from fun W' h=>h)
  have HKs:=Lib.hid (show ∀ (W':World) (o:Nat) (v:Value),o<w2.heap.size→(W'.cell? ⟨w2.heap.size,0,none⟩=some (.slice (some ⟨g',0,none⟩) code.length c')∧W'.cell? ⟨w2.heap.size+1,0,none⟩=some (.slice av ms.length cv))→((W'.setCell ⟨o,0,none⟩ v).cell? ⟨w2.heap.size,0,none⟩=some (.slice (some ⟨g',0,none⟩) code.length c')∧(W'.setCell ⟨o,0,none⟩ v).cell? ⟨w2.heap.size+1,0,none⟩=some (.slice av ms.length cv)) from
   fun W' o v ho h=>⟨(World.cell?_of_block (a:=⟨w2.heap.size,0,none⟩) (Below.heap_setCell _ _ _ _ (by show w2.heap.size≠o;omega))).trans h.1,(World.cell?_of_block (a:=⟨w2.heap.size+1,0,none⟩) (Below.heap_setCell _ _ _ _ (by show w2.heap.size+1≠o;omega))).trans h.2⟩)
  have k1:w.heap.size+1<w2.heap.size:=by omega
  have k2:w.heap.size+1+1<w2.heap.size:=by omega
  have k3:w.heap.size+1+1+1<w2.heap.size:=by omega
  have k4:w.heap.size+1+1+1+1<w2.heap.size:=by omega
  have KK1:=Lib.hid (fun W' v=>HKs.out W' _ v k1)
  have KK2:=Lib.hid (fun W' v=>HKs.out W' _ v k2)
  have KK3:=Lib.hid (fun W' v=>HKs.out W' _ v k3)
  have KK4:=Lib.hid (fun W' v=>HKs.out W' _ v k4)
  have HG4:=Lib.hid (show ∀ o:Nat,o≤w.heap.size+5→(Value.slice (some ⟨g',0,none⟩) code.length c').ownBlock≠some o from fun o ho e=>by simp only [Value.ownBlock,Option.some.injEq] at e;omega)
  have HG5:=Lib.hid (show ∀ o:Nat,o≤w.heap.size+5→(Value.slice av ms.length cv).ownBlock≠some o from fun o ho e=>by have:=s11 _ e;omega)
  have HDd:=Lib.hid (show w2.heap.size+2<Dd∧w.heap.size+6≤w2.heap.size from ⟨by have:=hI0.lt;omega,hle2⟩)
  clear k1 k2 k3 k4 hle2 HKs hlw hsz6 hgS hg1 hbw2 hb2 hs1 hs2 HG Hok Hlt H3 HR HRp Hbw1 HP hI0 hB' hgl hcl s3 s6 s9 s10 s11 hD
  go_wp2
  go_region_held3 (fun w'=>w'.cell? ⟨w2.heap.size,0,none⟩=some (.slice (some ⟨g',0,none⟩) code.length c')∧w'.cell? ⟨w2.heap.size+1,0,none⟩=some (.slice av ms.length cv))
   (first|with_reducible exact HK0.out|(repeat (first|with_reducible exact HK0.out|(with_reducible refine HKd.out _ ?_)|(with_reducible refine KK1.out _ _ ?_)|(with_reducible refine KK2.out _ _ ?_)|(with_reducible refine KK3.out _ _ ?_)|(with_reducible refine KK4.out _ _ ?_)))) (fail)
  have ho4:=ownsRow_setCell_other (ownsRow_setCell_other (ownsRow_setCell_other (ownsRow_setCell_other HS4.out (a:=⟨w.heap.size+1,0,none⟩) (HG4.out (w.heap.size+1) (by omega)) (.slice (some ⟨g',0,none⟩) code.length c')) (a:=⟨w.heap.size+1+1,0,none⟩) (HG4.out (w.heap.size+1+1) (by omega)) (.slice av ms.length cv)) (a:=⟨w.heap.size+1+1+1,0,none⟩) (HG4.out (w.heap.size+1+1+1) (by omega)) (.int .i64 0)) (a:=⟨w.heap.size+1+1+1+1,0,none⟩) (HG4.out (w.heap.size+1+1+1+1) (by omega)) (.int .i64 0)
  have ho5:=ownsRow_setCell_other (ownsRow_setCell_other (ownsRow_setCell_other (ownsRow_setCell_other HS5.out (a:=⟨w.heap.size+1,0,none⟩) (HG5.out (w.heap.size+1) (by omega)) (.slice (some ⟨g',0,none⟩) code.length c')) (a:=⟨w.heap.size+1+1,0,none⟩) (HG5.out (w.heap.size+1+1) (by omega)) (.slice av ms.length cv)) (a:=⟨w.heap.size+1+1+1,0,none⟩) (HG5.out (w.heap.size+1+1+1) (by omega)) (.int .i64 0)) (a:=⟨w.heap.size+1+1+1+1,0,none⟩) (HG5.out (w.heap.size+1+1+1+1) (by omega)) (.int .i64 0)
  have hX1:((((W4.setCell ⟨w.heap.size+1,0,none⟩ (.slice (some ⟨g',0,none⟩) code.length c')).setCell ⟨w.heap.size+1+1,0,none⟩ (.slice av ms.length cv)).setCell ⟨w.heap.size+1+1+1,0,none⟩ (.int .i64 0)).setCell ⟨w.heap.size+1+1+1+1,0,none⟩ (.int .i64 0)).heap[Dd]?=some (.deferred (some [])):=by
   have h5:=HDd.out
   rw [Below.heap_setCell _ _ _ _ (by show Dd≠w.heap.size+1+1+1+1;omega),Below.heap_setCell _ _ _ _ (by show Dd≠w.heap.size+1+1+1;omega),Below.heap_setCell _ _ _ _ (by show Dd≠w.heap.size+1+1;omega),Below.heap_setCell _ _ _ _ (by show Dd≠w.heap.size+1;omega)]
   exact Hd.out
  have hX2:((((W4.setCell ⟨w.heap.size+1,0,none⟩ (.slice (some ⟨g',0,none⟩) code.length c')).setCell ⟨w.heap.size+1+1,0,none⟩ (.slice av ms.length cv)).setCell ⟨w.heap.size+1+1+1,0,none⟩ (.int .i64 0)).setCell ⟨w.heap.size+1+1+1+1,0,none⟩ (.int .i64 0)).cell? ⟨w.heap.size+1,0,none⟩=some (.slice (some ⟨g',0,none⟩) code.length c'):=by simp [go_sem,x2]
  have hX3:((((W4.setCell ⟨w.heap.size+1,0,none⟩ (.slice (some ⟨g',0,none⟩) code.length c')).setCell ⟨w.heap.size+1+1,0,none⟩ (.slice av ms.length cv)).setCell ⟨w.heap.size+1+1+1,0,none⟩ (.int .i64 0)).setCell ⟨w.heap.size+1+1+1+1,0,none⟩ (.int .i64 0)).cell? ⟨w.heap.size+2,0,none⟩=some (.slice av ms.length cv):=by simp [go_sem,x3]
  have hX4:((((W4.setCell ⟨w.heap.size+1,0,none⟩ (.slice (some ⟨g',0,none⟩) code.length c')).setCell ⟨w.heap.size+1+1,0,none⟩ (.slice av ms.length cv)).setCell ⟨w.heap.size+1+1+1,0,none⟩ (.int .i64 0)).setCell ⟨w.heap.size+1+1+1+1,0,none⟩ (.int .i64 0)).cell? ⟨w.heap.size+3,0,none⟩=some (.int .i64 0):=by simp [go_sem,x4]
  have hX5:((((W4.setCell ⟨w.heap.size+1,0,none⟩ (.slice (some ⟨g',0,none⟩) code.length c')).setCell ⟨w.heap.size+1+1,0,none⟩ (.slice av ms.length cv)).setCell ⟨w.heap.size+1+1+1,0,none⟩ (.int .i64 0)).setCell ⟨w.heap.size+1+1+1+1,0,none⟩ (.int .i64 0)).cell? ⟨w.heap.size+4,0,none⟩=some (.int .i64 0):=by simp [go_sem,x5]
  have hXb:=(((Hi4.out.bel.setCell (p:=⟨w.heap.size+1,0,none⟩) (Nat.le_succ _) (.slice (some ⟨g',0,none⟩) code.length c')).setCell (p:=⟨w.heap.size+1+1,0,none⟩) (by show w.heap.size≤w.heap.size+1+1;omega) (.slice av ms.length cv)).setCell (p:=⟨w.heap.size+1+1+1,0,none⟩) (by show w.heap.size≤w.heap.size+1+1+1;omega) (.int .i64 0)).setCell (p:=⟨w.heap.size+1+1+1+1,0,none⟩) (by show w.heap.size≤w.heap.size+1+1+1+1;omega) (.int .i64 0)
  generalize (((W4.setCell ⟨w.heap.size+1,0,none⟩ (.slice (some ⟨g',0,none⟩) code.length c')).setCell ⟨w.heap.size+1+1,0,none⟩ (.slice av ms.length cv)).setCell ⟨w.heap.size+1+1+1,0,none⟩ (.int .i64 0)).setCell ⟨w.heap.size+1+1+1+1,0,none⟩ (.int .i64 0)=X at *
  have hk':=Calm.putObj (B:=w.heap.size) X.drew (.deferred none) hX1 rfl (by have:=HDd.out;omega)
  have t2:=hk'.cell (show X.drew.cell? ⟨w.heap.size+1,0,none⟩=_ from hX2)
  have t3:=hk'.cell (show X.drew.cell? ⟨w.heap.size+2,0,none⟩=_ from hX3)
  have t4:=hk'.cell (show X.drew.cell? ⟨w.heap.size+3,0,none⟩=_ from hX4)
  have t5:=hk'.cell (show X.drew.cell? ⟨w.heap.size+4,0,none⟩=_ from hX5)
  have HX1:=Lib.hid (show X.drew.heap[Dd]?=some (.deferred (some [])) from hX1)
  have HO4:=Lib.hid (hk'.own (A:=X.drew) ho4)
  have HO5:=Lib.hid (hk'.own (A:=X.drew) ho5)
  have HXB:=Lib.hid (Calm.below hXb.drew hk')
  clear hX1 hX2 hX3 hX4 hX5 ho4 ho5 hXb hk' x2 x3 x4 x5 y2 y3 y4 y5
  go_wp2
  refine ⟨by simp,.inl ⟨_,_,rfl,run_takeDeferred HX1.out,?_⟩⟩
  refine ⟨.tuple #[.slice (some ⟨g',0,none⟩) code.length c',.slice av ms.length cv,.int .i64 0,.int .i64 0],by simp [results,Tryz.results110,go_sem,t2,t3,t4,t5],HXB.out,.inr ⟨by rw [← HS8.out],_,_,rfl,?_,?_⟩⟩
  ·rw [← HS8.out]
   have h:=HO4.out
   show World.ownsRow _ _ _ _ _ D.length (encZ D)
   rw [own_ilen h];exact h
  ·rw [← HS8.out];exact HO5.out
 case stop =>
  rintro Dd c W4 ⟨rfl,hb,x2,x3,x4,x5,hne⟩ hD hd
  have Hd:=Lib.hid hd
  have hk':=Calm.putObj (B:=w.heap.size) W4 (.deferred none) hd rfl (by omega)
  have HB:=Lib.hid hb
  have Hne:=Lib.hid hne
  have t2:=hk'.cell x2
  have t3:=hk'.cell x3
  have t4:=hk'.cell x4
  have t5:=hk'.cell x5
  clear hd hb hne
  gi_wp2
  refine ⟨by simp,.inl ⟨_,_,rfl,run_takeDeferred Hd.out,?_⟩⟩
  exact ⟨.tuple #[.slice none 0 0,.slice none 0 0,.int .i64 R.2.2.1,.int .i64 R.2.2.2],by simp [results,Tryz.results110,go_sem,t2,t3,t4,t5],Calm.below HB.out hk',.inl ⟨Hne.out,rfl⟩⟩
end Go.Proofs.YtdffaepbkecoeaaGreat
namespace Go.Proofs.YtdffaepbkecoeaaGreat
open Go.RowKit
set_option linter.unusedVariables false
theorem flow_any {w:World} (vc vj:Value) (code:List (Nat×Nat)) (js:List Nat) (hok:FindOk code js []) (hl:code.length≤16384) (hjl:js.length≤16384) (hc:Instrs w vc code) (hj:Words w vj js) :
 Calls Tryz.prog 59 #[vc,vj] w (DpsPost (flowN code js) w):=by
 have hlt:=hc.lt
 have HF:=Lib.hid (found_any vc vj code js hok hl hjl hc hj)
 have HD:=Lib.hid (fun W B g b uc uj (hG:GraphAt W B g b uc uj code js)=>depths_any hG hok hlt)
 generalize flowN code js=R at *
 clear hlt hc hj
 go_enter Tryz.func59,Tryz.ntmps59
 go_wp2_with fail
 refine HF.out.mono ?_
 rintro e w1 ⟨g,b,uc,uj,rfl,hb1,hG⟩
 have HD1:=Lib.hid (HD.out _ _ _ _ _ _ hG)
 have HB1:=Lib.hid hb1
 clear hb1 hG HF HD
 go_wp2_with fail
 refine HD1.out.mono ?_
 rintro e w2 ⟨hb2,⟨hne,rfl⟩|⟨h0,vd,vm,rfl,ho1,ho2⟩⟩
 ·have HB2:=Lib.hid (Bel.tr HB1.out hb2)
  have HN:=Lib.hid hne
  clear hb2 hne
  go_wp2
  exact bodyPost_ret (v:=.tuple #[.slice none 0 0,.slice none 0 0,.int .i64 R.2.2.1,.int .i64 R.2.2.2]) (by simp [results,Tryz.results59,go_sem]) rfl ⟨HB2.out,.inl ⟨HN.out,rfl⟩⟩
 ·have HB2:=Lib.hid (Bel.tr HB1.out hb2)
  have H0:=Lib.hid h0
  have HO1:=Lib.hid (own_from (own_base ho1) (B:=w.heap.size) (fun q e=>Nat.le_trans HB1.out.size (ho1.lt q e).1))
  have HO2:=Lib.hid (own_from (own_base ho2) (B:=w.heap.size) (fun q e=>Nat.le_trans HB1.out.size (ho2.lt q e).1))
  clear hb2 h0 ho1 ho2
  go_wp2
  exact bodyPost_ret (v:=.tuple #[vd,vm,.int .i64 0,.int .i64 0]) (by simp [results,Tryz.results59,go_sem]) rfl ⟨HB2.out,.inr ⟨H0.out,_,_,rfl,HO1.out,HO2.out⟩⟩
structure TakeOk (m:Img):Prop where
 k:checkI m=0
 f:FindOk m.code m.js (m.lx.map (·.2))
 r:(flowN m.code m.js).2.2.2=0
def TakeBad (m:Img) (a c:Nat):Prop :=
 (checkI m≠0∧a=0∧c=checkI m) ∨ (checkI m=0∧FindBad m.code m.js (m.lx.map (·.2)) a c) ∨
 (checkI m=0∧FindOk m.code m.js (m.lx.map (·.2))∧(flowN m.code m.js).2.2.2≠0∧a=(flowN m.code m.js).2.2.1∧c=(flowN m.code m.js).2.2.2)
def ModAt (W:World) (B mb:Nat) (m:Img):Prop :=
 B≤mb∧∃ (tb b:Nat) (vm uc vd uj ud un:Value),W.cell? ⟨mb,0,none⟩=some (.pointer (some ⟨tb,0,none⟩))∧B≤tb ∧
  (W.cell? ⟨tb,0,none⟩=some (.pointer (some ⟨b,0,none⟩))∧W.cell? ⟨tb,1,none⟩=some vm∧W.cell? ⟨tb,2,none⟩=some uc∧W.cell? ⟨tb,3,none⟩=some vd ∧
   W.cell? ⟨tb,4,none⟩=some uc∧W.cell? ⟨tb,5,none⟩=some uj∧W.cell? ⟨tb,6,none⟩=some ud∧W.cell? ⟨tb,7,none⟩=some (.int .u32 m.zero)∧W.cell? ⟨tb,8,none⟩=some (.int .u32 m.stack) ∧
   W.cell? ⟨tb,9,none⟩=some un∧W.cell? ⟨tb,10,none⟩=some (.int .i64 (bitsI m))∧W.cell? ⟨tb,11,none⟩=some (.int .u64 (digN m))) ∧
  ImgOwn W B uc uj ud un m∧(∃ B',B≤B'∧FoundAt m.code m.js W B' b) ∧
  W.ownsRow B 3 1 vd (flowN m.code m.js).1.length (encZ (flowN m.code m.js).1)∧W.ownsRow B 3 1 vm (flowN m.code m.js).2.1.length (encZ (flowN m.code m.js).2.1)
def TakePost (m:Img) (w:World) (e:Ending) (w':World):Prop :=
 Below w.heap.size w w'∧((∃ a c:Nat,e=.returned (.tuple #[.pointer none,.int .i64 a,.int .i64 c])∧TakeBad m a c) ∨
  ∃ mb,e=.returned (.tuple #[.pointer (some ⟨mb,0,none⟩),.int .i64 0,.int .i64 0])∧TakeOk m∧ModAt w' w.heap.size mb m)
theorem findBad_pos {code:List (Nat×Nat)} {js ats:List Nat} {i c:Nat} (h:FindBad code js ats i c):c≠0:=by cases h <;> first|assumption|decide
theorem run_b229 (p:Option Addr) (a:Option Addr) (n c:Nat) (w:World):(Instr.build 113 #[(0,.pointer p),(1,.slice a n c)]).run Tryz.prog w=.ok (.agg #[.pointer p,.slice a n c]) w:=by kernel_rfl
theorem run_b231 (a a':Option Addr) (n c n' c':Nat) (w:World):(Instr.build 115 #[(0,.slice a n c),(1,.slice a' n' c')]).run Tryz.prog w=.ok (.agg #[.slice a n c,.slice a' n' c']) w:=by kernel_rfl
theorem run_b233 (p a1 a2 a3 a4 a5 a6 a7:Option Addr) (n1 c1 n2 c2 n3 c3 n4 c4 n5 c5 n6 c6 n7 c7:Nat) (z s:Int) (w:World):(Instr.build 117 #[(0,.agg #[.pointer p,.slice a1 n1 c1]),(1,.agg #[.slice a2 n2 c2,.slice a3 n3 c3]),(2,.agg #[.slice a4 n4 c4,.slice a5 n5 c5,.slice a6 n6 c6,.int .u32 z,.int .u32 s,.slice a7 n7 c7])]).run Tryz.prog w=.ok (.agg #[.pointer p,.slice a1 n1 c1,.slice a2 n2 c2,.slice a3 n3 c3,.slice a4 n4 c4,.slice a5 n5 c5,.slice a6 n6 c6,.int .u32 z,.int .u32 s,.slice a7 n7 c7,.int .i64 0,.int .u64 0]) w:=by kernel_rfl
theorem rawI_lt' {m:Img} (hc:∀ i ∈ m.code,i.1<256∧i.2<4294967296) (hd:∀ x ∈ m.data,x<256):∀ x ∈ imgB m,x<256:=by
 refine withN_lt (withN_lt (fun x hx=>?_) _ _) _ _
 unfold rawI headI at hx
 rcases List.mem_append.1 hx with hx|hx
 ·rcases List.mem_append.1 hx with hx|hx
  ·have:∀ y ∈ ([80,69,78,33]:List Nat),y<256:=by decide
   exact this x hx
  ·exact le4s_lt _ x hx
 ·rcases List.mem_append.1 hx with hx|hx
  ·exact flatS_lt _ x hx
  ·rcases List.mem_append.1 hx with hx|hx
   ·exact le4s_lt _ x hx
   ·obtain ⟨l,hl,hx⟩:=List.mem_flatMap.1 hx
    unfold partsI at hl
    simp only [List.mem_cons,List.not_mem_nil,or_false] at hl
    rcases hl with rfl|rfl|rfl|rfl
    ·exact encode_lt _ hc x hx
    ·exact le4s_lt _ x hx
    ·exact hd x hx
    ·exact namesB_lt _ x hx
theorem run_b303 (p:Option Addr) (w:World):(Instr.build 143 #[(0,.pointer p)]).run Tryz.prog w=.ok (.agg #[.pointer p]) w:=by kernel_rfl
theorem imgB_length_le (m:Img) (hm:checkI m=0):(imgB m).length<4294967296:=by
 obtain ⟨hc1,hc2,hc3,hc4,hc5,hc6,hc7⟩:=checkI_ok hm
 have L0:=encode_len m.code
 have L1:=le4s_length m.js
 have L3:=namesB_len m.lx (fun j hj=>by
  have:=(namesN_iff m.lx).1 hc7 j hj
  unfold nameN at this
  simp only [Bool.and_eq_true,decide_eq_true_eq] at this
  have:=this.2.1
  omega) m.lx.length (Nat.le_refl _)
 rw [List.take_length] at L3
 unfold roomN at hc5
 have hr:(rawI m).length=64+((encode m.code).length+((le4s m.js).length+(m.data.length+(namesB m.lx).length))):=by
  have h1:(headI m).length=16:=by unfold headI;rw [List.length_append,le4s_length];rfl
  have h2:=flatS_length (spansL 64 ((partsI m).map List.length))
  rw [spansL_length,List.length_map] at h2
  have h3:(partsI m).length=4:=rfl
  have h4:((partsI m).flatMap id).length=(encode m.code).length+((le4s m.js).length+(m.data.length+(namesB m.lx).length)):=by
   unfold partsI;simp
  unfold flatS at h2
  rw [rawI,List.length_append,List.length_append,List.length_append,h1,h2,h3,h4,le4s_length]
  simp only [List.length_cons,List.length_nil]
  omega
 have h5:(imgB m).length=(rawI m).length:=by
  unfold imgB sealedN
  rw [withN_length (by rw [withN_length (by omega)];omega),withN_length (by omega)]
 omega
theorem small_of_check {m:Img} (hm:checkI m=0):Small m:=by
 obtain ⟨hc1,hc2,hc3,hc4,hc5,hc6,hc7⟩:=checkI_ok hm
 unfold roomN at hc5
 exact ⟨hc1,hc3,by omega,hc6⟩
theorem cells28 {w:World} {g:Nat} {a b c d e f:Value} (h:w.heap[g]?=some (.cells #[a,b,c,d,e,f] 28 (0,0))):w.cell? ⟨g,0,none⟩=some a∧w.cell? ⟨g,1,none⟩=some b∧w.cell? ⟨g,2,none⟩=some c∧w.cell? ⟨g,3,none⟩=some d∧w.cell? ⟨g,4,none⟩=some e∧w.cell? ⟨g,5,none⟩=some f :=
 ⟨by simp [World.cell?,h],by simp [World.cell?,h],by simp [World.cell?,h],by simp [World.cell?,h],by simp [World.cell?,h],by simp [World.cell?,h]⟩
theorem own_downT {w:World} {B B' e sz n:Nat} {v:Value} {xs:List Value} (h:w.ownsRow B' e sz v n xs) (hb:B≤B'):w.ownsRow B e sz v n xs:=own_from (own_base h) (fun g e=>Nat.le_trans hb (h.lt g e).1)
theorem own_setRow {w:World} {B e sz n g:Nat} {v:Value} {xs:List Value} {cs:Array Value} (h:w.ownsRow B e sz v n xs) (hg:g<B):(w.setRow g cs).ownsRow B e sz v n xs:=by
 obtain ⟨hl,h⟩:=h
 rcases h with h|⟨g',cap,cur,hv,hb,hh,rest⟩
 ·exact ⟨hl,.inl h⟩
 ·exact ⟨hl,.inr ⟨g',cap,cur,hv,hb,(setRow_other _ _ _ _ (by omega)).trans hh,rest⟩⟩
theorem takeV_any (vc vj vd vn:Value) (m:Img) (w:World) (h:ImgAt w vc vj vd vn m) :
 Calls Tryz.prog 22 #[.agg #[vc,vj,vd,.int .u32 m.zero,.int .u32 m.stack,vn]] w (TakePost m w):=by
 have H:=Lib.hid h
 have hb0:=Bel.new w (.cells #[vc,vj,vd,.int .u32 m.zero,.int .u32 m.stack,vn] 28)
 have HC:=Lib.hid (cells_new6 w vc vj vd (.int .u32 m.zero) (.int .u32 m.stack) vn 28)
 have HH:=Lib.hid (heap_alloc_new w (.cells #[vc,vj,vd,.int .u32 m.zero,.int .u32 m.stack,vn] 28))
 obtain ⟨W0,hW0⟩:∃ W0,W0=w.alloc (.cells #[vc,vj,vd,.int .u32 m.zero,.int .u32 m.stack,vn] 28):=⟨_,rfl⟩
 have HK:=Lib.hid (imgCheck_any vc vj vd vn m W0 (by rw [hW0];exact h.below hb0))
 obtain ⟨ac,cc,rfl,-⟩:=h.c.1
 obtain ⟨aj,cj,rfl,-⟩:=h.j.1
 obtain ⟨ad,cd,rfl,-⟩:=h.d.1
 obtain ⟨an,cn,rfl,-⟩:=h.n.1
 clear h
 go_enter Tryz.func22,Tryz.ntmps22
 go_wp2_with fail
 rw [← hW0]
 refine HK.out.mono ?_
 rintro e w1 ⟨rfl,hb1⟩
 have hs0:w.heap.size<W0.heap.size:=by rw [hW0];simp
 have HB1:=Lib.hid (Bel.tr (by rw [hW0];exact hb0) hb1:Below w.heap.size w w1)
 by_cases hm:checkI m=0
 ·rw [hm]
  have hh1:w1.heap[w.heap.size]?=some (.cells #[.slice ac m.code.length cc,.slice aj m.js.length cj,.slice ad m.data.length cd,.int .u32 m.zero,.int .u32 m.stack,.slice an m.lx.length cn] 28):=by
   rw [hb1.block w.heap.size hs0,hW0];exact HH.out
  have hs1:w.heap.size<w1.heap.size:=Nat.lt_of_lt_of_le hs0 hb1.size
  have HCP:=Lib.hid (copied_any _ _ _ _ m (small_of_check hm) w1 (H.out.below HB1.out))
  have HH1:=Lib.hid hh1
  have c0:w1.cell? ⟨w.heap.size,0,none⟩=some (.slice ac m.code.length cc):=(hb1.cell (p:=⟨w.heap.size,0,none⟩) hs0).trans (by rw [hW0];exact HC.out.1)
  have c1:w1.cell? ⟨w.heap.size,1,none⟩=some (.slice aj m.js.length cj):=(hb1.cell (p:=⟨w.heap.size,1,none⟩) hs0).trans (by rw [hW0];exact HC.out.2.1)
  have c2:w1.cell? ⟨w.heap.size,2,none⟩=some (.slice ad m.data.length cd):=(hb1.cell (p:=⟨w.heap.size,2,none⟩) hs0).trans (by rw [hW0];exact HC.out.2.2.1)
  have c3:w1.cell? ⟨w.heap.size,3,none⟩=some (.int .u32 m.zero):=(hb1.cell (p:=⟨w.heap.size,3,none⟩) hs0).trans (by rw [hW0];exact HC.out.2.2.2.1)
  have c4:w1.cell? ⟨w.heap.size,4,none⟩=some (.int .u32 m.stack):=(hb1.cell (p:=⟨w.heap.size,4,none⟩) hs0).trans (by rw [hW0];exact HC.out.2.2.2.2.1)
  have c5:w1.cell? ⟨w.heap.size,5,none⟩=some (.slice an m.lx.length cn):=(hb1.cell (p:=⟨w.heap.size,5,none⟩) hs0).trans (by rw [hW0];exact HC.out.2.2.2.2.2)
  clear hW0 hb0 HC HK hh1 hb1 HH
  go_wp2_with fail
  refine HCP.out.mono ?_
  rintro e w2 ⟨uc,uj,ud,un,rfl,hio,hb2⟩
  have I1:=H.out.below HB1.out
  have HA:=Lib.hid (hio.at (H.out))
  obtain ⟨a1,n1,rfl,-⟩:=own_sl hio.c
  obtain ⟨a2,n2,rfl,-⟩:=own_sl hio.j
  obtain ⟨a3,n3,rfl,-⟩:=own_sl hio.d
  obtain ⟨a4,n4,rfl,-⟩:=own_sl hio.n
  have HIO:=Lib.hid hio
  have HH2:=Lib.hid (show w2.heap[w.heap.size]?=some (.cells #[.slice ac m.code.length cc,.slice aj m.js.length cj,.slice ad m.data.length cd,.int .u32 m.zero,.int .u32 m.stack,.slice an m.lx.length cn] 28) from (hb2.block w.heap.size hs1).trans HH1.out)
  have HB2:=Lib.hid hb2
  clear hio hb2 HH1 c0 c1 c2 c3 c4 c5 HCP I1
  obtain ⟨W3,hW3⟩:∃ W3,W3=w2.setRow w.heap.size #[.slice a1 m.code.length n1,.slice a2 m.js.length n2,.slice a3 m.data.length n3,.int .u32 m.zero,.int .u32 m.stack,.slice a4 m.lx.length n4]:=⟨_,rfl⟩
  have HH3:=Lib.hid (setRow_heap _ _ _ #[.slice a1 m.code.length n1,.slice a2 m.js.length n2,.slice a3 m.data.length n3,.int .u32 m.zero,.int .u32 m.stack,.slice a4 m.lx.length n4] _ _ HH2.out)
  obtain ⟨r0,r1,r2,r3,r4,r5⟩:=cells28 HH3.out
  have HIO3:Hid (ImgOwn W3 (w.heap.size+1) (.slice a1 m.code.length n1) (.slice a2 m.js.length n2) (.slice a3 m.data.length n3) (.slice a4 m.lx.length n4) m):=Lib.hid (by
   rw [hW3]
   have hB:w.heap.size+1≤w1.heap.size:=hs1
   exact ⟨own_setRow (own_downT HIO.out.c hB) (by omega),own_setRow (own_downT HIO.out.j hB) (by omega),own_setRow (own_downT HIO.out.d hB) (by omega),own_setRow (own_downT HIO.out.n hB) (by omega)⟩)
  have HA3:=Lib.hid (HIO3.out.at H.out)
  have HB3:Hid (Below w.heap.size w W3):=Lib.hid (by rw [hW3];exact below_setRow (Bel.tr HB1.out HB2.out) _ (Nat.le_refl _) _)
  have hs3:w.heap.size<W3.heap.size:=by
   have h1:=HB2.out.size
   have h2:W3.heap.size=w2.heap.size:=by rw [hW3];simp [World.setRow]
   omega
  have HF:=Lib.hid (find_any _ _ _ m.code m.js (m.lx.map (·.2)) HA3.out.c HA3.out.j.rowu HA3.out.n.names)
  have HH2':=HH2
  clear HIO HA HH2
  go_wp2_with (((with_reducible refine wpList_store_row (o:=⟨none,.store 28 (.tmp 1) (.tmp 20),_,_,_,none⟩) rfl 28 _ _ rfl w.heap.size #[.slice a1 m.code.length n1,.slice a2 m.js.length n2,.slice a3 m.data.length n3,.int .u32 m.zero,.int .u32 m.stack,.slice a4 m.lx.length n4] ?_ ?_ 28 _ HH2'.out ?_ ?_ ?_ ?_);rfl;rfl;exact info28;rfl;(simp [Value.oneCell'])))
  rw [← hW3]
  rw [← hW3] at r0 r1 r2 r3 r4 r5 HH3
  clear hW3
  refine HF.out.mono ?_
  rintro e w4 ⟨hb4,⟨i,c,rfl,hbad⟩|⟨b,B,rfl,hfo,hB1,hB2,hfd⟩⟩
  ·have hcn:((c:Nat):Int)≠0:=by have:=findBad_pos hbad;omega
   have HB4:=Lib.hid (Bel.tr HB3.out hb4)
   clear hb4
   go_wp2_with fail
   go_ret3
   exact ⟨HB4.out,.inl ⟨i,c,rfl,.inr (.inl ⟨hm,hbad⟩)⟩⟩
  ·have s0:=(hb4.cell (p:=⟨w.heap.size,0,none⟩) hs3).trans r0
   have s1:=(hb4.cell (p:=⟨w.heap.size,1,none⟩) hs3).trans r1
   have s2:=(hb4.cell (p:=⟨w.heap.size,2,none⟩) hs3).trans r2
   have s3:=(hb4.cell (p:=⟨w.heap.size,3,none⟩) hs3).trans r3
   have s4:=(hb4.cell (p:=⟨w.heap.size,4,none⟩) hs3).trans r4
   have s5:=(hb4.cell (p:=⟨w.heap.size,5,none⟩) hs3).trans r5
   have hs4:w.heap.size<w4.heap.size:=Nat.lt_of_lt_of_le hs3 hb4.size
   have HB4:=Lib.hid hb4
   have HA4:=Lib.hid (HA3.out.below hb4)
   have hsm:=small_of_check hm
   have HD:=Lib.hid (flow_any _ _ m.code m.js ⟨hfo.he,hfo.h3,hfo.hall,hfo.hg,fun j hj=>absurd hj (Nat.not_lt_zero _)⟩ hsm.c hsm.j HA4.out.c HA4.out.j)
   have HFD:=Lib.hid hfd
   have HFO:=Lib.hid hfo
   obtain ⟨R,hR⟩:∃ R,R=flowN m.code m.js:=⟨_,rfl⟩
   rw [← hR] at HD
   have HR:=Lib.hid hR
   clear r0 r1 r2 r3 r4 r5 HF HH3 hb4 hfd hfo hR hsm
   go_wp2_with fail
   refine HD.out.mono ?_
   rintro e w5 ⟨hb5,⟨hbad,rfl⟩|⟨hgood,vd,vm,rfl,od,om⟩⟩
   ·have hcn:((R.2.2.2:Nat):Int)≠0:=by omega
    have HB5:=Lib.hid (Bel.tr (Bel.tr HB3.out HB4.out) hb5)
    clear hb5
    go_wp2_with fail
    go_ret3
    exact ⟨HB5.out,.inl ⟨_,_,rfl,.inr (.inr ⟨hm,HFO.out,by rw [← HR.out];exact hbad,by rw [HR.out],by rw [HR.out]⟩)⟩⟩
   ·have k0:=(hb5.cell (p:=⟨w.heap.size,0,none⟩) hs4).trans s0
    have k1:=(hb5.cell (p:=⟨w.heap.size,1,none⟩) hs4).trans s1
    have k2:=(hb5.cell (p:=⟨w.heap.size,2,none⟩) hs4).trans s2
    have k3:=(hb5.cell (p:=⟨w.heap.size,3,none⟩) hs4).trans s3
    have k4:=(hb5.cell (p:=⟨w.heap.size,4,none⟩) hs4).trans s4
    have k5:=(hb5.cell (p:=⟨w.heap.size,5,none⟩) hs4).trans s5
    have hs5:w.heap.size<w5.heap.size:=Nat.lt_of_lt_of_le hs4 hb5.size
    have HB5:=Lib.hid hb5
    have HA5:=Lib.hid (HA4.out.below hb5)
    obtain ⟨xd,yd,rfl,-⟩:=own_sl od
    obtain ⟨xm,ym,rfl,-⟩:=own_sl om
    have HOD:=Lib.hid od
    have HOM:=Lib.hid om
    have hb229:=run_b229
    have hb231:=run_b231
    have hb233:=run_b233
    clear s0 s1 s2 s3 s4 s5 hb5 od om HD
    obtain ⟨Wa,hWa⟩:∃ Wa,Wa=w5.alloc (.cells #[.pointer (some ⟨b,0,none⟩),.slice xm R.2.1.length ym,.slice a1 m.code.length n1,.slice xd R.1.length yd,.slice a1 m.code.length n1,.slice a2 m.js.length n2,.slice a3 m.data.length n3,.int .u32 m.zero,.int .u32 m.stack,.slice a4 m.lx.length n4,.int .i64 0,.int .u64 0] 117):=⟨_,rfl⟩
    have hha:Wa.heap[w5.heap.size]?=some (.cells #[.pointer (some ⟨b,0,none⟩),.slice xm R.2.1.length ym,.slice a1 m.code.length n1,.slice xd R.1.length yd,.slice a1 m.code.length n1,.slice a2 m.js.length n2,.slice a3 m.data.length n3,.int .u32 m.zero,.int .u32 m.stack,.slice a4 m.lx.length n4,.int .i64 0,.int .u64 0] 117):=by rw [hWa];exact heap_alloc_new w5 _
    have hsa:w5.heap.size<Wa.heap.size:=by rw [hWa];simp
    have hba:Below w5.heap.size w5 Wa:=by rw [hWa];exact Bel.new w5 _
    have HHa:=Lib.hid hha
    have HBa:=Lib.hid hba
    have HBi:=Lib.hid (bits_any _ _ _ _ m hm (checkI_ok hm).2.2.2.2.1 Wa (HA5.out.below hba))
    clear hha hba
    go_wp2_with fail
    rw [← hWa]
    clear hWa
    refine HBi.out.mono ?_
    rintro e w6 ⟨rfl,hb6⟩
    obtain ⟨tb,htb⟩:∃ tb,tb=w5.heap.size:=⟨_,rfl⟩
    have hh6:=(hb6.block w5.heap.size hsa).trans HHa.out
    have hb56:=Bel.tr HBa.out hb6
    have hs6:tb<w6.heap.size:=by rw [htb];exact Nat.lt_of_lt_of_le hsa hb6.size
    rw [← htb] at hh6
    have Htb:=Lib.hid htb
    rw [← htb]
    have q10:=cell_of_row w6 tb 10 _ _ _ hh6
    have f10:=frozen_of_row w6 tb 10 _ _ hh6
    obtain ⟨W6,hW6⟩:∃ W6,W6=w6.setCell ⟨tb,10,none⟩ (.int .i64 (bitsI m)):=⟨_,rfl⟩
    have hB6:Below w5.heap.size w5 W6:=by rw [hW6];exact hb56.setCell (p:=⟨tb,10,none⟩) (by show w5.heap.size≤tb;omega) _
    have hh7:=heap_setCell_same _ _ 10 _ _ (.int .i64 (bitsI m)) hh6
    rw [← hW6] at hh7
    have HH7:=Lib.hid hh7
    have l0:(w6.setCell ⟨tb,10,none⟩ (.int .i64 (bitsI m))).cell? ⟨w.heap.size,0,none⟩=_:=(by rw [← hW6];exact hB6.cell (p:=⟨w.heap.size,0,none⟩) hs5:_=w5.cell? ⟨w.heap.size,0,none⟩).trans k0
    have l1:(w6.setCell ⟨tb,10,none⟩ (.int .i64 (bitsI m))).cell? ⟨w.heap.size,1,none⟩=_:=(by rw [← hW6];exact hB6.cell (p:=⟨w.heap.size,1,none⟩) hs5:_=w5.cell? ⟨w.heap.size,1,none⟩).trans k1
    have l2:(w6.setCell ⟨tb,10,none⟩ (.int .i64 (bitsI m))).cell? ⟨w.heap.size,2,none⟩=_:=(by rw [← hW6];exact hB6.cell (p:=⟨w.heap.size,2,none⟩) hs5:_=w5.cell? ⟨w.heap.size,2,none⟩).trans k2
    have l3:(w6.setCell ⟨tb,10,none⟩ (.int .i64 (bitsI m))).cell? ⟨w.heap.size,3,none⟩=_:=(by rw [← hW6];exact hB6.cell (p:=⟨w.heap.size,3,none⟩) hs5:_=w5.cell? ⟨w.heap.size,3,none⟩).trans k3
    have l4:(w6.setCell ⟨tb,10,none⟩ (.int .i64 (bitsI m))).cell? ⟨w.heap.size,4,none⟩=_:=(by rw [← hW6];exact hB6.cell (p:=⟨w.heap.size,4,none⟩) hs5:_=w5.cell? ⟨w.heap.size,4,none⟩).trans k4
    have l5:(w6.setCell ⟨tb,10,none⟩ (.int .i64 (bitsI m))).cell? ⟨w.heap.size,5,none⟩=_:=(by rw [← hW6];exact hB6.cell (p:=⟨w.heap.size,5,none⟩) hs5:_=w5.cell? ⟨w.heap.size,5,none⟩).trans k5
    have HB6:=Lib.hid hB6
    have HEn:=Lib.hid (imgEncode_any _ _ _ _ m hm W6 (HA5.out.below hB6))
    have hst6:tb<W6.heap.size:=by
     have:=World.block_lt_of_cell? W6 ⟨tb,0,none⟩ (cell_of_row W6 tb 0 _ _ _ hh7)
     exact this
    have hlt:=Lib.hid (rawI_lt' (m:=m) HA5.out.c.2 HA5.out.d.2)
    clear htb hh6 hb56 hB6 hh7 k0 k1 k2 k3 k4 k5 hb6 HBi HHa
    go_wp2_with fail
    rw [← hW6]
    clear hW6 l0 l1 l2 l3 l4 l5 q10 f10
    refine HEn.out.mono ?_
    rintro e w7 ⟨ub,rfl,ob,hb7⟩
    have hh7:=(hb7.block tb hst6).trans HH7.out
    have HB7:=Lib.hid (Bel.tr HB6.out hb7)
    have HSm:=Lib.hid (sum_bytes _ (imgB m) w7 (own_bytes ob hlt.out))
    obtain ⟨xb,yb,rfl,-⟩:=own_sl ob
    have q11:=cell_of_row w7 tb 11 _ _ _ hh7
    have f11:=frozen_of_row w7 tb 11 _ _ hh7
    have Hh7:=Lib.hid hh7
    clear hb7 ob hh7 HEn HH7
    go_wp2_with fail
    refine HSm.out.mono ?_
    rintro e w8 ⟨rfl,rfl⟩
    have hsl:=sumN_lt (imgB m)
    have hil:=imgB_length_le m hm
    have Hdg:=Lib.hid (show digN m=sumN (imgB m) * 4294967296+(imgB m).length from rfl)
    have hb303:=run_b303
    have hu1:IntKind.u64.wrap ((sumN (imgB m):Nat):Int)=((sumN (imgB m):Nat):Int):=by rw [IntKind.wrap_u64];omega
    have hu2:IntKind.u64.wrap (((imgB m).length:Nat):Int)=(((imgB m).length:Nat):Int):=by rw [IntKind.wrap_u64];omega
    have hu3:IntKind.u64.wrap (((sumN (imgB m):Nat):Int) * 4294967296)=((sumN (imgB m):Nat):Int) * 4294967296:=by rw [IntKind.wrap_u64];omega
    have hu4:IntKind.u64.wrap (((sumN (imgB m):Nat):Int) * 4294967296+(((imgB m).length:Nat):Int))=((digN m:Nat):Int):=by rw [IntKind.wrap_u64,Hdg.out];omega
    generalize sumN (imgB m)=sm at *
    generalize (imgB m).length=il at *
    clear HSm
    go_wp2_with fail
    go_ret3
    have hb9:Below w5.heap.size w5 ((w7.setCell ⟨tb,11,none⟩ (.int .u64 (digN m))).alloc (.cells #[.pointer (some ⟨tb,0,none⟩)] 143)):=Bel.al (HB7.out.setCell (p:=⟨tb,11,none⟩) (by show w5.heap.size≤tb;rw [Htb.out];exact Nat.le_refl _) _) _
    have h8:=heap_setCell_same _ _ 11 _ _ (.int .u64 (digN m)) Hh7.out
    have ht8:tb<(w7.setCell ⟨tb,11,none⟩ (.int .u64 (digN m))).heap.size:=World.block_lt_of_cell? _ ⟨tb,0,none⟩ (cell_of_row _ tb 0 _ _ _ h8)
    have h9:=(Below.heap_alloc (w7.setCell ⟨tb,11,none⟩ (.int .u64 (digN m))) (.cells #[.pointer (some ⟨tb,0,none⟩)] 143) tb ht8).trans h8
    have hwt:w.heap.size≤tb:=by rw [Htb.out];omega
    have hw7:w.heap.size≤w7.heap.size:=by have:=HB7.out.size;omega
    have hio9:=HIO3.out.below (Bel.tr (Bel.tr HB4.out HB5.out) hb9)
    refine ⟨Bel.tr (Bel.tr (Bel.tr HB3.out HB4.out) HB5.out) hb9,.inr ⟨w7.heap.size,rfl,⟨hm,HFO.out,by rw [← HR.out];omega⟩,hw7,tb,b,.slice xm R.2.1.length ym,.slice a1 m.code.length n1,.slice xd R.1.length yd,.slice a2 m.js.length n2,.slice a3 m.data.length n3,.slice a4 m.lx.length n4,cell1_new _ _ _ (by simp),hwt,?_,?_,?_,?_,?_⟩⟩
    ·exact ⟨cell_of_row _ tb 0 _ _ _ h9,cell_of_row _ tb 1 _ _ _ h9,cell_of_row _ tb 2 _ _ _ h9,cell_of_row _ tb 3 _ _ _ h9,cell_of_row _ tb 4 _ _ _ h9,cell_of_row _ tb 5 _ _ _ h9,cell_of_row _ tb 6 _ _ _ h9,cell_of_row _ tb 7 _ _ _ h9,cell_of_row _ tb 8 _ _ _ h9,cell_of_row _ tb 9 _ _ _ h9,cell_of_row _ tb 10 _ _ _ h9,cell_of_row _ tb 11 _ _ _ h9⟩
    ·exact ⟨own_downT hio9.c (by omega),own_downT hio9.j (by omega),own_downT hio9.d (by omega),own_downT hio9.n (by omega)⟩
    ·obtain ⟨vp,vo,vt,us,tag,hA⟩:=HFD.out
     exact ⟨B,by omega,FoundAt.below ⟨vp,vo,vt,us,hA.at_⟩ (Bel.tr HB5.out hb9)⟩
    ·rw [← HR.out];exact own_below (own_downT HOD.out (by omega)) hb9
    ·rw [← HR.out];exact own_below (own_downT HOM.out (by omega)) hb9
 ·have hne:((checkI m:Nat):Int)≠0:=by omega
  go_wp2_with fail
  go_ret3
  exact ⟨HB1.out,.inl ⟨0,_,rfl,.inl ⟨hm,rfl,rfl⟩⟩⟩
structure Fr (w w':World) (F F':Nat→Prop):Prop where
 os:w'.os=w.os
 tape:w'.tape=w.tape
 output:w'.output=w.output
 size:w.heap.size≤w'.heap.size
 block:∀ k,k<w.heap.size→¬ F k→w'.heap[k]?=w.heap[k]?
 foot:∀ k,F' k→F k ∨ w.heap.size≤k
theorem Fr.refl (w:World) (F:Nat→Prop):Fr w w F F:=⟨rfl,rfl,rfl,Nat.le_refl _,fun _ _ _=>rfl,fun _ h=>.inl h⟩
theorem Fr.trans {w w1 w2:World} {F F1 F2:Nat→Prop} (h:Fr w w1 F F1) (h2:Fr w1 w2 F1 F2):Fr w w2 F F2 :=
 ⟨h2.os.trans h.os,h2.tape.trans h.tape,h2.output.trans h.output,Nat.le_trans h.size h2.size,
  fun k hk hn=>(h2.block k (Nat.lt_of_lt_of_le hk h.size) (fun h1=>(h.foot k h1).elim hn (fun h3=>absurd hk (by omega)))).trans (h.block k hk hn),
  fun k hk=>(h2.foot k hk).elim (fun h1=>h.foot k h1) (fun h1=>.inr (Nat.le_trans h.size h1))⟩
theorem Fr.of {w w1:World} (h:Below w.heap.size w w1) (F:Nat→Prop):Fr w w1 F F :=
 ⟨h.os,h.tape,h.output,h.size,fun k hk _=>h.block k hk,fun _ h=>.inl h⟩
theorem Fr.mono {w w1:World} {F F1 G G1:Nat→Prop} (h:Fr w w1 F F1) (hs:∀ i,F i→G i) (hs1:∀ i,G1 i→G i ∨ F1 i):Fr w w1 G G1 :=
 ⟨h.os,h.tape,h.output,h.size,fun k hk hn=>h.block k hk (fun e=>hn (hs _ e)),fun k hk=>(hs1 k hk).elim .inl (fun h1=>(h.foot k h1).elim (fun h2=>.inl (hs k h2)) .inr)⟩
theorem Fr.setCell (w:World) {F:Nat→Prop} {a:Addr} (ha:F a.block) (v:Value):Fr w (w.setCell a v) F F :=
 ⟨rfl,rfl,rfl,by simp [World.setCell],fun k hk hn=>Below.heap_setCell _ _ _ _ (fun e=>hn (by rw [e];exact ha)),fun _ h=>.inl h⟩
theorem Fr.drew {w w1:World} {F F1:Nat→Prop} (h:Fr w w1 F F1):Fr w w1.drew F F1:=h.trans (Fr.of (Below.refl _ _).drew F1)
theorem Fr.row {w w':World} {F F':Nat→Prop} (h:Fr w w' F F') {k:Nat} {o:Obj} (hk:w.heap[k]?=some o) (hn:¬ F k):w'.heap[k]?=some o :=
 (h.block k (Array.getElem?_eq_some_iff.1 hk).1 hn).trans hk
theorem Fr.grew {w w2:World} {F:Nat→Prop} {v v':Value} (hv:∀ g,v.ownBlock=some g→F g) (hg:Grew w w2 v v') {F':Nat→Prop} (hF:∀ k,F' k→F k ∨ v'.ownBlock=some k):Fr w w2 F F' :=
 ⟨hg.1.os,hg.1.tape,hg.1.output,hg.1.size,fun k hk hn=>hg.1.block k hk (fun e=>hn (hv k e.symm)),
  fun k hk=>(hF k hk).elim .inl (fun h1=>(hg.2 k h1).elim (fun h2=>.inl (hv k h2)) .inr)⟩
theorem own_fr {w w':World} {F F':Nat→Prop} {B e sz n:Nat} {v:Value} {xs:List Value} (h:w.ownsRow B e sz v n xs) (hf:Fr w w' F F') (hn:∀ g,v.ownBlock=some g→¬ F g):w'.ownsRow B e sz v n xs:=by
 refine ⟨h.1,?_⟩
 rcases h.2 with hn'|⟨g,cap,cur,rfl,hb,hgg,rest⟩
 ·exact .inl hn'
 ·exact .inr ⟨g,cap,cur,rfl,hb,hf.row hgg (hn g rfl),rest⟩
def encT:List (Nat×Bool)→List Value
 | []=>[]
 | x :: l=>.int .u32 x.1 :: .bool x.2 :: encT l
theorem encT_append (l m:List (Nat×Bool)):encT (l++m)=encT l++encT m:=by
 induction l with
 | nil=>rfl
 | cons x l ih=>simp only [List.cons_append,encT,ih]
theorem encT_length (l:List (Nat×Bool)):(encT l).length=l.length * 2:=by
 induction l with
 | nil=>rfl
 | cons x l ih=>simp only [encT,List.length_cons,ih];omega
def touL (logs:Bool) (t l:List (Nat×Bool)):List (Nat×Bool):=if logs then (t++l).take 65536 else t
def memF (p g:Nat) (vt:Value):Nat→Prop:=fun k=>k=p ∨ k=g ∨ vt.ownBlock=some k
structure MemAt (w:World) (p g c N:Nat) (vt:Value) (d:List Nat) (logs:Bool) (tou:List (Nat×Bool)):Prop where
 hp:w.heap[p]?=some (.cells #[.slice (some ⟨g,0,none⟩) N c,.bool logs,vt] 154 (0,0))
 row:w.ownsRow 0 5 1 (.slice (some ⟨g,0,none⟩) N c) N (encN .u8 d)
 tr:w.ownsRow 0 66 2 vt tou.length (encT tou)
 len:d.length=N
 k:∃ k,8≤k∧k≤16∧N=2 ^ k
 lt:∀ x ∈ d,x<256
 tl:tou.length≤65536
theorem MemAt.fr {w w':World} {F F':Nat→Prop} {p g c N:Nat} {vt:Value} {d:List Nat} {logs:Bool} {tou:List (Nat×Bool)} (h:MemAt w p g c N vt d logs tou) (hf:Fr w w' F F') (hn:∀ k,memF p g vt k→¬ F k):MemAt w' p g c N vt d logs tou :=
 ⟨hf.row h.hp (hn p (.inl rfl)),own_fr h.row hf (fun k e=>hn k (.inr (.inl (by cases e;rfl)))),own_fr h.tr hf (fun k e=>hn k (.inr (.inr e))),h.len,h.k,h.lt,h.tl⟩
theorem MemAt.below {w w':World} {p g c N:Nat} {vt:Value} {d:List Nat} {logs:Bool} {tou:List (Nat×Bool)} (h:MemAt w p g c N vt d logs tou) (hb:Below w.heap.size w w'):MemAt w' p g c N vt d logs tou :=
 h.fr (Fr.of hb (fun _=>False)) (fun _ _ h=>h)
theorem MemAt.sizes {w:World} {p g c N:Nat} {vt:Value} {d:List Nat} {logs:Bool} {tou:List (Nat×Bool)} (h:MemAt w p g c N vt d logs tou):256≤N∧N≤65536∧4294967296 % N=0:=by
 obtain ⟨k,h8,h16,rfl⟩:=h.k
 have:k=8 ∨ k=9 ∨ k=10 ∨ k=11 ∨ k=12 ∨ k=13 ∨ k=14 ∨ k=15 ∨ k=16:=by omega
 rcases this with rfl|rfl|rfl|rfl|rfl|rfl|rfl|rfl|rfl <;> decide
theorem mod_mod_N {a N:Nat} (h:4294967296 % N=0):a % 4294967296 % N=a % N:=Nat.mod_mod_of_dvd a (Nat.dvd_of_mod_eq_zero h)
set_option linter.unusedSimpArgs false
theorem cells379 {w:World} {g:Nat} {a b c:Value} (h:w.heap[g]?=some (.cells #[a,b,c] 154 (0,0))) :
 (w.cell? ⟨g,0,none⟩=some a∧w.cell? ⟨g,1,none⟩=some b∧w.cell? ⟨g,2,none⟩=some c)∧∀ j,w.frozen? ⟨g,j,none⟩=false :=
 ⟨⟨cell_of_row w g 0 _ _ _ h,cell_of_row w g 1 _ _ _ h,cell_of_row w g 2 _ _ _ h⟩,fun j=>frozen_of_row w g j _ _ h⟩
section
variable {w:World} {p g c N:Nat} {vt:Value} {d:List Nat} {logs:Bool} {tou:List (Nat×Bool)}
theorem made_any (h:MemAt w p g c N vt d logs tou):Calls Tryz.prog 69 #[.pointer (some ⟨p,0,none⟩)] w fun e w'=>e=.returned (.bool true)∧w=w':=by
 obtain ⟨⟨c0,c1,c2⟩,-⟩:=cells379 h.hp
 have hN:0<N:=by have:=h.sizes.1;omega
 clear h
 go_enter Tryz.func69,Tryz.ntmps69
 go_wp2_with fail
 go_ret
 exact ⟨by simp [hN],rfl⟩
theorem place_any (h:MemAt w p g c N vt d logs tou) (a:Nat) (ha:a<4294967296):Calls Tryz.prog 163 #[.pointer (some ⟨p,0,none⟩),.int .u32 a] w fun e w'=>e=.returned (.int .u32 (a % N:Nat))∧w=w':=by
 obtain ⟨⟨c0,c1,c2⟩,-⟩:=cells379 h.hp
 obtain ⟨s1,s2,-⟩:=h.sizes
 have hand:bits .and .u32 (a:Int) ((N:Int) - 1)=((a % N:Nat):Int):=by
  obtain ⟨k,-,-,hk⟩:=h.k
  have:=u32_and_nat a (N - 1) ha (by omega)
  rw [show ((N - 1:Nat):Int)=(N:Int) - 1 from by omega] at this
  rw [this,hk,Nat.and_two_pow_sub_one_eq_mod]
 have hw1:IntKind.i64.wrap ((N:Int) - 1)=(N:Int) - 1:=IntWalk.i64_in _ (by omega)
 have hw2:IntKind.u32.wrap ((N:Int) - 1)=(N:Int) - 1:=by rw [IntKind.wrap_u32];omega
 clear h
 go_enter Tryz.func163,Tryz.ntmps163
 go_wp2_with fail
 go_ret
 exact ⟨by simp [hand],rfl⟩
end
theorem wordF_lt {x:Nat} (h:x<4294967296):wordF x<4294967296:=by unfold wordF;split <;> omega
theorem bitsN_lt (op:BinOp) (x y:Int):(bits op .u32 x y).toNat<4294967296:=by have:=bits_hi_u32 op x y;have:=bits_lo_u32 op x y;omega
theorem wf_f32 {x:Nat} (h:(Lit.float .f32 x).wf=true):x<4294967296:=by simpa [Lit.wf] using h
theorem unW_lt (o a:Nat):unW o a<4294967296:=by
 unfold unW
 split
 ·exact w32_lt _
 split
 ·exact w32_lt _
 split
 ·exact w32_lt _
 split
 ·exact bitsN_lt _ _ _
 split
 ·exact bitsN_lt _ _ _
 split
 ·exact wordF_lt (wf_f32 (floatOfInt_wf .f32 _))
 split
 ·exact w32_lt _
 ·decide
theorem arithF_lt (op:BinOp) (x y:Nat):arithF op x y<4294967296:=by
 unfold arithF
 split
 ·rename_i r h;exact wordF_lt (wf_f32 (floatBits_wf h))
 ·decide
theorem ite_lt {p:Prop} [Decidable p] {x y c:Nat} (hx:x<c) (hy:y<c):(if p then x else y)<c:=by split <;> assumption
theorem biW_lt (o a b:Nat) (ha:a<4294967296):biW o a b<4294967296:=by
 have h1:a % b<4294967296:=Nat.lt_of_le_of_lt (Nat.mod_le _ _) ha
 have h2:a / 2 ^ (b % 32)<4294967296:=Nat.lt_of_le_of_lt (Nat.div_le_self _ _) ha
 unfold biW
 repeat' (refine ite_lt ?_ ?_)
 all_goals first|exact w32_lt _|exact bitsN_lt _ _ _|exact arithF_lt _ _ _|assumption|decide
theorem biR_lt (o a b:Nat) (ha:a<4294967296):(biR o a b).1<4294967296:=by
 have:=biW_lt o a b ha
 unfold biR
 repeat' split
 all_goals first|exact this|decide
open Go.ChangeShapes Go.WideShapes Go.ChangeAt Go.RowKit Go.Joins Go.Deep
section
variable {H:Type} {enc:TypeId×Value→H} {P:Program} {w:World} {base:Nat} {spare:Nat→Bool} {held:Bool}
theorem open_slice_fields {t e:TypeId} {fs:Array Field} {fuel:Nat} {cs:List Value} {x:DataW H×List MemPlace} (ht:P.underlying t=some (.slice e)) (he:P.underlying e=some (.struct fs))
 (hone:oneCellFields P fs=true) (hC:P.cellsOf e=fs.size) (h:DataW.trod enc P w base spare held fuel t cs=some x) :
 (cs=[.slice none 0 0]∧x=(.nil,[])) ∨
 ∃ (a:Addr) (len cap m:Nat) (D:Nat→DataW H) (Pl:Nat→List MemPlace),cs=[.slice (some a) len cap]∧base≤a.block∧len≤cap∧cap≤maxLen∧m=(if spare a.block then cap else len) ∧
  x=(.slice ((List.range len).map D) ((List.range (m - len)).map fun j=>D (len+j)),MemPlace.row a (m * fs.size)++(List.range m).flatMap Pl) ∧
  ∀ i,i<m→∃ (ys:List (DataW H×List MemPlace)) (n:Nat),D i=.agg (ys.map (·.1))∧Pl i=ys.flatMap (·.2)∧ys.length=fs.size ∧
   ∀ (j:Nat) (f:Field),fs[j]?=some f→∃ (v:Value) (y:DataW H×List MemPlace),w.cell? (a.add (i * fs.size+j))=some v∧ys[j]?=some y∧DataW.trod enc P w base spare held n f.type [v]=some y:=by
 rcases open_slice ht h with h0|⟨a,len,cap,m,n,D,Pl,hcs,hb,hl,hm,hmm,hx,hi⟩
 ·exact .inl h0
 ·refine .inr ⟨a,len,cap,m,D,Pl,hcs,hb,hl,hm,hmm,by rw [hC] at hx;exact hx,fun i him=>?_⟩
  obtain ⟨cs',hc,ht'⟩:=hi i him
  rw [hC] at hc
  obtain ⟨ys,n',hn',hy,hlen,hyl,hf⟩:=DataW.trod_struct he ht'
  obtain ⟨_,hcl,hat⟩:=World.cells?_some hc
  simp only [Prod.mk.injEq] at hy
  refine ⟨ys,n',hy.1,hy.2,hyl,fun j f hj=>?_⟩
  obtain ⟨ho,hk⟩:=hone_of hone j f hj
  have hjl:j<fs.size:=(Array.getElem?_eq_some_iff.1 hj).1
  have hcell:=hat j hjl
  have hv:cs'[j]?=some (cs'[j]'(by omega)):=List.getElem?_eq_getElem (by omega)
  have h1:=hf j f hj
  rw [ho,hk] at h1
  have hone':(cs'.drop j).take 1=[cs'[j]'(by omega)]:=by
   rw [List.drop_eq_getElem_cons (by omega)]
   rfl
  rw [hone'] at h1
  have hys:ys[j]?=some (ys[j]'(by omega)):=List.getElem?_eq_getElem (by omega)
  refine ⟨_,_,?_,hys,h1.trans hys⟩
  rw [← Go.Deep.add_add,hcell,hv]
end
theorem choose_list {α:Type} [Inhabited α] (n:Nat) (R:Nat→α→Prop) (h:∀ i,i<n→∃ x,R i x):∃ l:List α,l.length=n∧∀ i (hi:i<l.length),R i l[i]:=by
 classical
 refine ⟨(List.range n).map fun i=>if hi:i<n then (h i hi).choose else default,by simp,fun i hi=>?_⟩
 have hi':i<n:=by simpa using hi
 rw [List.getElem_map,List.getElem_range,dif_pos hi']
 exact (h i hi').choose_spec
theorem encI_get (l:List (Nat×Nat)) (R:Nat→Value→Prop) (h0:∀ i (hi:i<l.length),R (i * 2) (.int .u8 (l[i].1:Nat))) (h1:∀ i (hi:i<l.length),R (i * 2+1) (.int .u32 (l[i].2:Nat))) :
 ∀ j,j<(encI l).length→∃ u,(encI l)[j]?=some u∧R j u:=by
 intro j hj
 rw [encI_length] at hj
 rcases Nat.mod_two_eq_zero_or_one j with e|e
 ·obtain ⟨k,rfl⟩:∃ k,j=k * 2:=⟨j / 2,by omega⟩
  have hk:k<l.length:=by omega
  refine ⟨_,encI_op l k hk,?_⟩
  have:=h0 k hk
  rwa [List.getD_eq_getElem?_getD,List.getElem?_eq_getElem hk]
 ·obtain ⟨k,rfl⟩:∃ k,j=k * 2+1:=⟨j / 2,by omega⟩
  have hk:k<l.length:=by omega
  refine ⟨_,encI_arg l k hk,?_⟩
  have:=h1 k hk
  rwa [List.getD_eq_getElem?_getD,List.getElem?_eq_getElem hk]
theorem cells40:Tryz.prog.cellsOf 106=2:=by kernel_rfl
theorem cells33:Tryz.prog.cellsOf 25=1:=by kernel_rfl
theorem cells5:Tryz.prog.cellsOf 5=1:=by kernel_rfl
theorem cells52:Tryz.prog.cellsOf 167=2:=by kernel_rfl
theorem ocells28:Tryz.prog.cellsOf 28=6:=by kernel_rfl
theorem getD_get {α:Type} (l:List α) (d:α) {k:Nat} (hk:k<l.length):l.getD k d=l[k]:=by
 rw [List.getD_eq_getElem?_getD,List.getElem?_eq_getElem hk];rfl
theorem getD_lt {l:List Nat} {m:Nat} (h:∀ i (hi:i<l.length),l[i]<m) (h0:0<m) (k:Nat):l.getD k 0<m:=by
 by_cases hk:k<l.length
 ·rw [getD_get l 0 hk];exact h k hk
 ·rw [List.getD_eq_getElem?_getD,List.getElem?_eq_none (by omega)];exact h0
section
variable {H:Type} {enc:TypeId×Value→H} {w:World} {base:Nat}
end
section
variable {H:Type} {enc:TypeId×Value→H} {P:Program} {w:World} {base:Nat} {spare:Nat→Bool} {held:Bool}
end
section
variable {H:Type} {enc:TypeId×Value→H} {w:World} {base:Nat}
end
theorem inf25:(Tryz.prog.info? 25).map (fun i=>(i.zero,i.size,i.bytes))=some (some (.int .u32 0),1,4):=by kernel_rfl
theorem inf5:(Tryz.prog.info? 5).map (fun i=>(i.zero,i.size,i.bytes))=some (some (.int .u8 0),1,1):=by kernel_rfl
theorem bs23_1 (a:Int) (w:World):(Instr.buildSlice 23 1 #[(0,.int .u32 a)]).run Tryz.prog w=.ok (.slice (some ⟨w.heap.size,0,none⟩) 1 1) (w.alloc (.cells #[.int .u32 a] 25)):=by kernel_rfl
theorem own_apart {w:World} {B B' e e' sz sz' n n':Nat} {v v':Value} {xs xs':List Value} (h:w.ownsRow B e sz v n xs) (h':w.ownsRow B' e' sz' v' n' xs') (hne:e≠e') :
 ∀ g,v.ownBlock=some g→v'.ownBlock≠some g:=by
 intro g hg hg'
 rcases h.2 with ⟨rfl,_⟩|⟨q,cap,cur,rfl,_,hq,_⟩
 ·cases hg
 rcases h'.2 with ⟨rfl,_⟩|⟨q',cap',cur',rfl,_,hq',_⟩
 ·cases hg'
 simp only [Value.ownBlock,Option.some.injEq] at hg hg'
 rw [hg] at hq
 rw [hg',hq] at hq'
 simp only [Option.some.injEq,Obj.cells.injEq] at hq'
 exact hne hq'.2.1
theorem int_beq_ne {a b:Nat} (h:a≠b):(((a:Nat):Int) == ((b:Nat):Int))=false:=beq_eq_false_iff_ne.2 (fun h'=>h (Int.ofNat_inj.1 h'))
theorem inf159:(Tryz.prog.info? 66).map (fun i=>(i.zero,i.size,i.bytes))=some (some (.agg #[.int .u32 0,.bool false]),2,8):=by kernel_rfl
theorem run_b159 (x:Int) (b:Bool) (w:World):(Instr.build 66 #[(0,.int .u32 x),(1,.bool b)]).run Tryz.prog w=.ok (.agg #[.int .u32 x,.bool b]) w:=by kernel_rfl
theorem bs156_1 (x:Int) (b:Bool) (w:World):(Instr.buildSlice 63 1 #[(0,.agg #[.int .u32 x,.bool b])]).run Tryz.prog w=.ok (.slice (some ⟨w.heap.size,0,none⟩) 1 1) (w.alloc (.cells #[.int .u32 x,.bool b] 66)):=by kernel_rfl
theorem touN_succ (N a k:Nat) (b:Bool):touN N a (k+1) b=touN N a k b++[((a+k) % N,b)]:=by unfold touN;rw [List.range_succ,List.map_append];rfl
theorem touL_full {t l m:List (Nat×Bool)} (h:65536≤(touL true t l).length):touL true t (l++m)=touL true t l:=by
 unfold touL at *
 simp only [if_true] at *
 rw [List.length_take] at h
 rw [← List.append_assoc,List.take_append_of_le_length (by omega)]
theorem touL_more {t l:List (Nat×Bool)} {x:Nat×Bool} (h:(touL true t l).length<65536):touL true t (l++[x])=touL true t l++[x]:=by
 unfold touL at *
 simp only [if_true] at *
 rw [List.length_take] at h
 rw [← List.append_assoc,List.take_of_length_le (by simp at h ⊢;omega),List.take_of_length_le (by simp at h ⊢;omega)]
theorem MemAt.noted {W w9:World} {p g c N:Nat} {u v9:Value} {d:List Nat} {logs:Bool} {tou:List (Nat×Bool)} {x:Nat×Bool} (h:MemAt W p g c N u d logs tou) (hg:Grew W w9 u v9) (ho:w9.ownsRow 0 66 2 v9 (tou.length+1) (encT tou++[.int .u32 x.1,.bool x.2])) (hl:tou.length<65536) :
 MemAt (w9.setCell ⟨p,2,none⟩ v9) p g c N v9 d logs (tou++[x])∧Fr W (w9.setCell ⟨p,2,none⟩ v9) (fun b=>b=p ∨ u.ownBlock=some b) (fun b=>b=p ∨ v9.ownBlock=some b):=by
 have hne:∀ k,u.ownBlock=some k→k≠p:=fun k e hk=>by
  subst hk
  rcases h.tr.2 with ⟨e1,-⟩|⟨g',cap,cur,e1,-,hg',-⟩
  ·rw [e1] at e;cases e
  ·rw [e1] at e;cases e
   rw [h.hp] at hg'
   simp at hg'
 have hp9:w9.heap[p]?=some (.cells #[.slice (some ⟨g,0,none⟩) N c,.bool logs,u] 154 (0,0)) :=
  (hg.1.block p (Array.getElem?_eq_some_iff.1 h.hp).1 (fun e=>hne p e.symm rfl)).trans h.hp
 have hrow:w9.ownsRow 0 5 1 (.slice (some ⟨g,0,none⟩) N c) N (encN .u8 d):=own_grew h.row hg (own_apart h.row h.tr (by decide))
 have hgp:(Value.slice (some ⟨g,0,none⟩) N c).ownBlock≠some p:=fun e=>by
  have e':g=p:=by injection e
  rcases h.row.2 with ⟨e1,-⟩|⟨g',cap,cur,e1,-,hg',-⟩
  ·cases e1
  ·cases e1
   rw [e',h.hp] at hg'
   simp at hg'
 have hv9:v9.ownBlock≠some p:=fun e=>by
  rcases ho.2 with ⟨e1,-⟩|⟨g',cap,cur,e1,-,hg',-⟩
  ·rw [e1] at e;cases e
  ·rw [e1] at e;cases e
   rw [hp9] at hg'
   simp at hg'
 refine ⟨⟨heap_setCell_same w9 p 2 _ _ _ hp9,ownsRow_setCell_other hrow hgp _,?_,h.len,h.k,h.lt,by simp;omega⟩,?_⟩
 ·have:=ownsRow_setCell_other ho hv9 (a:=⟨p,2,none⟩) v9
  rw [encT_append,List.length_append]
  exact this
 ·refine (Fr.grew (F:=fun b=>b=p ∨ u.ownBlock=some b) (fun g e=>.inr e) hg (F':=fun b=>b=p ∨ v9.ownBlock=some b) (fun k hk=>hk.elim (fun h=>.inl (.inl h)) .inr)).trans ?_
  exact Fr.setCell w9 (F:=fun b=>b=p ∨ v9.ownBlock=some b) (a:=⟨p,2,none⟩) (.inl rfl) v9
def eachF (p g:Nat) (H:Nat→Prop) (v:Value):Nat→Prop:=fun b=>b=p ∨ b=g ∨ v.ownBlock=some b ∨ H b
structure EachAt (w:World) (p g c N:Nat) (vt:Value) (logs:Bool) (tou:List (Nat×Bool)) (H:Nat→Prop) (J:Nat→World→Prop) (D:Nat→List Nat) (wt:Bool) (a k:Nat) (W:World) (u:Value):Prop where
 m:MemAt W p g c N u (D k) logs (touL logs tou (touN N a k wt))
 j:J k W
 own:∀ b,u.ownBlock=some b→vt.ownBlock=some b ∨ w.heap.size≤b
 fr:Fr w W (eachF p g H vt) (eachF p g H u)
theorem MemAt.still {W w9:World} {p g c N:Nat} {u v9:Value} {d:List Nat} {logs:Bool} {tou:List (Nat×Bool)} (h:MemAt W p g c N u d logs tou) (hg:Grew W w9 u v9) :
 w9.heap[p]?=some (.cells #[.slice (some ⟨g,0,none⟩) N c,.bool logs,u] 154 (0,0)):=by
 have hne:u.ownBlock≠some p:=fun e=>by
  rcases h.tr.2 with ⟨e1,-⟩|⟨g',cap,cur,e1,-,hg',-⟩
  ·rw [e1] at e;cases e
  ·rw [e1] at e;cases e
   rw [h.hp] at hg'
   simp at hg'
 exact (hg.1.block p (Array.getElem?_eq_some_iff.1 h.hp).1 (fun e=>hne e.symm)).trans h.hp
section
variable {w:World} {p g c N:Nat} {vt:Value} {logs:Bool} {tou:List (Nat×Bool)} {H:Nat→Prop} {J:Nat→World→Prop} {D:Nat→List Nat} {wt:Bool} {a k:Nat}
theorem EachAt.out {w0 W:World} {u:Value} (h:EachAt w p g c N vt logs tou H J D wt a k W u) (hb:Below w0.heap.size w0 w) (hH:∀ b,H b→w0.heap.size≤b):Fr w0 W (memF p g vt) (memF p g u) :=
 ⟨h.fr.os.trans hb.os,h.fr.tape.trans hb.tape,h.fr.output.trans hb.output,Nat.le_trans hb.size h.fr.size,fun k hk hn=>by
  refine (h.fr.block k (Nat.lt_of_lt_of_le hk hb.size) ?_).trans (hb.block k hk)
  rintro (e|e|e|e)
  ·exact hn (.inl e)
  ·exact hn (.inr (.inl e))
  ·exact hn (.inr (.inr e))
  ·have:=hH k e;omega,fun k hk=>by
  rcases hk with e|e|e
  ·exact .inl (.inl e)
  ·exact .inl (.inr (.inl e))
  ·exact (h.own k e).elim (fun e=>.inl (.inr (.inr e))) (fun e=>.inr (Nat.le_trans hb.size e))⟩
theorem EachAt.note {W W1:World} {u u1:Value} (h:EachAt w p g c N vt logs tou H J D wt a k W u) {R:Nat→Prop}
 (hH:∀ b,R b→b<w.heap.size∧b≠p∧vt.ownBlock≠some b)
 (hJs:∀ k W W',J k W→W.heap.size≤W'.heap.size→(∀ b,R b→W'.heap[b]?=W.heap[b]?)→J k W')
 (hm:MemAt W1 p g c N u1 (D k) logs (touL logs tou (touN N a (k+1) wt))) (hf:Fr W W1 (fun b=>b=p ∨ u.ownBlock=some b) (fun b=>b=p ∨ u1.ownBlock=some b)) :
 J k W1∧(∀ b,u1.ownBlock=some b→vt.ownBlock=some b ∨ w.heap.size≤b)∧Fr w W1 (eachF p g H vt) (eachF p g H u1):=by
 have hs:=h.fr.size
 refine ⟨hJs k W W1 h.j hf.size (fun b hb=>hf.block b (by have:=(hH b hb).1;omega) ?_),fun b hb=>?_,h.fr.trans (hf.mono ?_ ?_)⟩
 ·rintro (rfl|hb')
  ·exact (hH b hb).2.1 rfl
  ·rcases h.own b hb' with h1|h1
   ·exact (hH b hb).2.2 h1
   ·have:=(hH b hb).1;omega
 ·by_cases hbp:b=p
  ·subst hbp
   rcases hm.tr.2 with ⟨e1,-⟩|⟨g',cap,cur,e1,-,hg',-⟩
   ·rw [e1] at hb;cases hb
   ·rw [e1] at hb;cases hb
    rw [hm.hp] at hg'
    simp at hg'
  ·rcases hf.foot b (.inr hb) with (h1|h1)|h1
   ·exact absurd h1 hbp
   ·exact h.own b h1
   ·exact .inr (by omega)
 ·rintro b (rfl|hb)
  ·exact .inl rfl
  ·exact .inr (.inr (.inl hb))
 ·rintro b (rfl|rfl|hb|hb)
  ·exact .inl (.inl rfl)
  ·exact .inl (.inr (.inl rfl))
  ·exact .inr (.inr hb)
  ·exact .inl (.inr (.inr (.inr hb)))
end
theorem each_any (f:Nat) (c1 c2:Value) (H R:Nat→Prop) (J:Nat→World→Prop) (D:Nat→List Nat) (wt:Bool) (n a:Nat) {w:World} {p g c N:Nat} {vt:Value} {logs:Bool} {tou:List (Nat×Bool)}
 (hcf:∀ (args:Array Value) (W:World),(callFunc f args).run Tryz.prog W=.ok (.enter f args) W)
 (hn:n≤65536) (ha:a<4294967296)
 (h:MemAt w p g c N vt (D 0) logs tou)
 (hH:∀ b,R b→b<w.heap.size∧b≠p∧vt.ownBlock≠some b)
 (hJs:∀ k W W',J k W→W.heap.size≤W'.heap.size→(∀ b,R b→W'.heap[b]?=W.heap[b]?)→J k W')
 (hJ0:J 0 w)
 (hcall:∀ k,k<n→∀ (W:World) (u:Value) (t:List (Nat×Bool)),MemAt W p g c N u (D k) logs t→J k W→w.heap.size≤W.heap.size→(∀ b,R b→u.ownBlock≠some b) →
  Calls Tryz.prog f #[.int .i64 k,.int .u32 ((a+k) % N:Nat),c1,c2] W fun e W'=>e=.returned (.tuple #[])∧MemAt W' p g c N u (D (k+1)) logs t∧J (k+1) W'∧Fr W W' (fun b=>b=g ∨ H b) (fun b=>b=g ∨ H b)) :
 Calls Tryz.prog 133 #[.pointer (some ⟨p,0,none⟩),.int .u32 a,.int .i64 n,.bool wt,.func (.func f) #[] #[c1,c2]] w fun e w'=>e=.returned (.tuple #[])∧∃ vt',EachAt w p g c N vt logs tou H J D wt a n w' vt':=by
 obtain ⟨i159,hi159,hi1590,hi1591,hi1592⟩:=info_parts inf159
 have hb159:=run_b159
 have hbs:=bs156_1
 obtain ⟨s1,s2,hNd⟩:=h.sizes
 have HCall:Hid (∀ k,k<n→∀ (W:World) (u:Value),EachAt w p g c N vt logs tou H J D wt a k W u→∀ (W1:World) (u1:Value),MemAt W1 p g c N u1 (D k) logs (touL logs tou (touN N a (k+1) wt))→Fr W W1 (fun b=>b=p ∨ u.ownBlock=some b) (fun b=>b=p ∨ u1.ownBlock=some b) →
  Calls Tryz.prog f #[.int .i64 k,.int .u32 ((a+k) % N:Nat),c1,c2] W1 fun e W'=>e=.returned (.tuple #[])∧EachAt w p g c N vt logs tou H J D wt a (k+1) W' u1):=Lib.hid (by
  intro k hk W u he W1 u1 hm hf
  obtain ⟨hj,ho,hfr⟩:=he.note hH hJs hm hf
  refine (hcall k hk W1 u1 _ hm hj hfr.size (fun b hb e=>?_)).mono ?_
  ·rcases ho b e with h1|h1
   ·exact (hH b hb).2.2 h1
   ·have:=(hH b hb).1;omega
  ·rintro e W' ⟨rfl,hm',hj',hf'⟩
   exact ⟨rfl,hm',hj',ho,hfr.trans (hf'.mono (fun b hb=>hb.elim (fun h=>.inr (.inl h)) (fun h=>.inr (.inr (.inr h)))) (fun b hb=>.inl hb))⟩)
 have H0:=Lib.hid (show EachAt w p g c N vt logs tou H J D wt a 0 w vt from ⟨by
  have:touL logs tou (touN N a 0 wt)=tou:=by
   cases logs
   ·rfl
   ·show (tou++[]).take 65536=tou
    rw [List.append_nil,List.take_of_length_le h.tl]
  rw [this];exact h,hJ0,fun b hb=>.inl hb,Fr.refl _ _⟩)
 clear hcall hJ0 hH hJs h
 go_enter Tryz.func133,Tryz.ntmps133
 go_wp2_with fail
 go_loopw [13] (fun i W=>∃ (k:Nat) (u:Value),i=.int .i64 k∧k≤n∧EachAt w p g c N vt logs tou H J D wt a k W u) (fun i _=>n - (intOf i).toNat)
 case atStart=>exact ⟨0,vt,rfl,Nat.zero_le _,H0.out⟩
 case round =>
  obtain ⟨k,u,rfl,hk,he⟩:=hrel
  obtain ⟨W,rfl⟩:∃ W:World,W=wr:=⟨_,rfl⟩
  have HE:=Lib.hid he
  by_cases hlt:k<n
  ·have hki:(k:Int)<(n:Int):=by omega
   have hw1:IntKind.u32.wrap (k:Int)=(k:Int):=by rw [IntKind.wrap_u32];omega
   have hw2:IntKind.u32.wrap ((a:Int)+(k:Int))=(((a+k) % 4294967296:Nat):Int):=by rw [IntKind.wrap_u32];omega
   have hpl:=place_any he.m ((a+k) % 4294967296) (Nat.mod_lt _ (by decide))
   rw [mod_mod_N hNd] at hpl
   have HC:=Lib.hid (HCall.out k hlt W u he)
   have hq0:=touN_succ N a k wt
   have hqlt:(a+k) % N<4294967296:=by have:=Nat.mod_lt (a+k) (show 0<N by omega);omega
   have HW:=Lib.hid hpl
   generalize (a+k) % N=q at hpl hq0 HC hqlt
   have HM:=Lib.hid he.m
   obtain ⟨⟨r0,r1,r2⟩,rf⟩:=cells379 he.m.hp
   have HS2:=Lib.hid s2
   have HS1:=Lib.hid s1
   clear he HW s1 s2
   cases logs
   ·have hM1:MemAt W p g c N u (D k) false (touL false tou (touN N a (k+1) wt)):=HM.out
    have hcl:=HC.out W u hM1 (Fr.refl _ _)
    clear hM1
    go_wp2_with fail
    refine hpl.mono ?_
    rintro e w1 ⟨rfl,rfl⟩
    clear hpl
    go_wp2_with fail
    refine hcl.mono ?_
    rintro e w2 ⟨rfl,he2⟩
    have HE2:=Lib.hid he2
    clear hcl he2
    go_wp2_with fail
    go_roundw
    case rel=>exact ⟨k+1,u,by go_num,by omega,HE2.out⟩
    case measure=>simp [intOf];omega
   ·generalize ht:touL true tou (touN N a k wt)=t at HM
    have HT:=Lib.hid ht
    clear ht
    have HRow:=Lib.hid (own_base HM.out.tr)
    obtain ⟨L,hL⟩:∃ L,L=t.length:=⟨_,rfl⟩
    rw [← hL] at HRow
    obtain ⟨ua,uc,rfl,-⟩:=own_sl HRow.out
    have HL:=Lib.hid hL
    clear hL
    by_cases hfull:L<65536
    ·have hti:(L:Int)<65536:=by omega
     have HFl:=Lib.hid hfull
     clear hfull
     go_wp2_with fail
     refine hpl.mono ?_
     rintro e w1 ⟨rfl,rfl⟩
     clear hpl
     have hL63:L+1≤65536:=by have:=HFl.out;omega
     have HSt:=Lib.hid (fun (w9:World) (v9:Value) (hg:Grew W w9 (.slice ua L uc) v9)=>HM.out.still hg)
     have HNt:=Lib.hid (fun (w9:World) (v9:Value) (hg:Grew W w9 (.slice ua L uc) v9) (ho:w9.ownsRow 0 66 2 v9 (L+1) (encT t++[.int .u32 q,.bool wt]))=>HM.out.noted (x:=(q,wt)) hg (by rw [← HL.out];exact ho) (by rw [← HL.out];exact HFl.out))
     go_wp2_with ((with_reducible refine wpList_append1B (o:=⟨some 43,.call { callee:=.builtin .append,args:=#[.tmp 38,.tmp 42],argTypes:=#[63,63] },_,_,_,none⟩) rfl _ _ 63 rfl 66 i159 (.agg #[.int .u32 0,.bool false]) 2 8 Tryz.underlying63 hi159 hi1590 hi1591 hi1592 ?_ ?_ _ _ _ HRow.out _ _ W.heap.size ?_ ?_ ?_ ?_ ?_ ?_ ?_ ?_);rfl;decide;rfl;rfl;rfl;rfl;(simp [Value.oneCell']);(unfold maxLen;omega);omega;intro g9 c9 w9 o9 r9 hl9;have hp9:=HSt.out _ _ r9;obtain ⟨⟨d0,d1,d2⟩,df⟩:=cells379 hp9;have HN9:=Lib.hid (HNt.out _ _ r9 o9);have HR9:=Lib.hid r9;clear r0 r1 r2 rf hp9 r9 o9)
     have hmm:=HN9.out.1
     rw [← HT.out,← touL_more (by rw [HT.out,← HL.out];exact HFl.out),← hq0] at hmm
     refine (HC.out _ _ hmm HN9.out.2).mono ?_
     rintro e w2 ⟨rfl,he2⟩
     have HE2:=Lib.hid he2
     clear hmm he2 d0 d1 d2 df
     go_wp2_with fail
     go_roundw
     case rel=>exact ⟨k+1,_,by go_num,by omega,HE2.out⟩
     case measure=>simp [intOf];omega
    ·have hti:((L:Int)<65536)=False:=eq_false (by omega)
     have htn:(L<65536)=False:=eq_false hfull
     have hM1:MemAt W p g c N (.slice ua L uc) (D k) true (touL true tou (touN N a (k+1) wt)):=by
      rw [hq0,touL_full (by rw [HT.out,← HL.out];omega),HT.out]
      exact HM.out
     have hcl:=HC.out W _ hM1 (Fr.refl _ _)
     clear hM1 hfull
     go_wp2_with fail
     refine hpl.mono ?_
     rintro e w1 ⟨rfl,rfl⟩
     clear hpl
     go_wp2_with fail
     refine hcl.mono ?_
     rintro e w2 ⟨rfl,he2⟩
     have HE2:=Lib.hid he2
     clear hcl he2
     go_wp2_with fail
     go_roundw
     case rel=>exact ⟨k+1,_,by go_num,by omega,HE2.out⟩
     case measure=>simp [intOf];omega
  ·obtain rfl:k=n:=by omega
   have hge:¬ (k:Int)<(k:Int):=by omega
   go_wp2_with fail
   go_end0
   exact ⟨rfl,u,HE.out⟩
