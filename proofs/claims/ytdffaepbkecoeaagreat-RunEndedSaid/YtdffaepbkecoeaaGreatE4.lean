import Derived.Test.YtdffaepbkecoeaaGreatE3
import Derived.Test.YtdffaepbkecoeaaGreatE1
import Derived.Test.YtdffaepbkecoeaaGreatE2
import Derived.Deep.RegionHeld3
import Derived.Shelf.Spec.SlicesInsert
import Derived.Laws.CopyRow
set_option maxRecDepth 100000
set_option maxHeartbeats 4000000
namespace Go.Proofs.YtdffaepbkecoeaaGreat
open Go.RowKit
set_option linter.unusedVariables false
set_option linter.unusedSimpArgs false
section
variable {w:World} {p g c N:Nat} {vt:Value} {d:List Nat} {logs:Bool} {tou:List (Nat×Bool)}
theorem MemAt.gp (h:MemAt w p g c N vt d logs tou):g≠p:=fun e=>by
 rcases h.row.2 with ⟨e1,-⟩|⟨g',cap,cur,e1,-,hg',-⟩
 ·cases e1
 ·cases e1
  rw [e,h.hp] at hg'
  simp at hg'
theorem MemAt.gt (h:MemAt w p g c N vt d logs tou):vt.ownBlock≠some g:=fun e=>own_apart h.tr h.row (by decide) g e rfl
theorem MemAt.pt (h:MemAt w p g c N vt d logs tou):vt.ownBlock≠some p:=fun e=>by
 rcases h.tr.2 with ⟨e1,-⟩|⟨g',cap,cur,e1,-,hg',-⟩
 ·rw [e1] at e;cases e
 ·rw [e1] at e;cases e
  rw [h.hp] at hg'
  simp at hg'
theorem MemAt.glt (h:MemAt w p g c N vt d logs tou):g<w.heap.size:=by
 rcases h.row.2 with ⟨e1,-⟩|⟨g',cap,cur,e1,-,hg',-⟩
 ·cases e1
 ·cases e1
  exact (Array.getElem?_eq_some_iff.1 hg').1
theorem MemAt.plt (h:MemAt w p g c N vt d logs tou):p<w.heap.size:=(Array.getElem?_eq_some_iff.1 h.hp).1
theorem MemAt.cell (h:MemAt w p g c N vt d logs tou) {q:Nat} (hq:q<N):w.cell? ⟨g,q,none⟩=some (.int .u8 (d.getD q 0:Nat)):=by
 obtain ⟨g',cap,e,-,-,-,hc⟩:=own_form h.row (by have:=h.sizes.1;omega)
 cases e
 have hl:=h.len
 rw [hc q (by rw [encN_length];omega),encN_at .u8 d q (by omega)]
theorem MemAt.froz (h:MemAt w p g c N vt d logs tou) (q:Nat):w.frozen? ⟨g,q,none⟩=false:=by
 rcases h.row.2 with ⟨e1,-⟩|⟨g',cap,cur,e1,-,hg',-⟩
 ·cases e1
 ·cases e1
  exact frozen_of_row w g q _ _ hg'
theorem MemAt.put (h:MemAt w p g c N vt d logs tou) {q x:Nat} (hq:q<N) (hx:x<256):MemAt (w.setCell ⟨g,q,none⟩ (.int .u8 x)) p g c N vt (d.set q x) logs tou:=by
 refine ⟨(Below.heap_setCell _ _ _ _ (fun e=>h.gp e.symm)).trans h.hp,⟨by rw [encN_length,List.length_set,h.len];omega,?_⟩,ownsRow_setCell_other h.tr h.gt _,by rw [List.length_set];exact h.len,h.k,fun y hy=>?_,h.tl⟩
 ·rcases h.row.2 with ⟨e1,-⟩|⟨g',cap,cur,e1,hb,hg',hn,hm,hs,ht⟩
  ·cases e1
  ·cases e1
   refine .inr ⟨g,c,cur.setIfInBounds q (.int .u8 x),rfl,hb,heap_setCell_same w g q _ _ _ hg',hn,hm,by simpa using hs,?_⟩
   rw [← encN_set,← ht,Array.toList_setIfInBounds,List.take_set]
 ·rcases List.mem_or_eq_of_mem_set hy with h1|rfl
  ·exact h.lt y h1
  ·exact hx
theorem callFunc345 (args:Array Value) (W:World):(callFunc 134 args).run Tryz.prog W=.ok (.enter 134 args) W:=by simp [go_sem]
theorem callFunc468 (args:Array Value) (W:World):(callFunc 176 args).run Tryz.prog W=.ok (.enter 176 args) W:=by simp [go_sem]
theorem callFunc472 (args:Array Value) (W:World):(callFunc 180 args).run Tryz.prog W=.ok (.enter 180 args) W:=by simp [go_sem]
theorem callFunc473 (args:Array Value) (W:World):(callFunc 181 args).run Tryz.prog W=.ok (.enter 181 args) W:=by simp [go_sem]
theorem store1_any (h:MemAt w p g c N vt d logs tou) {k q q1 q2:Nat} (hk:k<4) (hq:q<N) {b:Int} (h1:w.cell? ⟨q1,0,none⟩=some (.pointer (some ⟨p,0,none⟩))) (h2:w.cell? ⟨q2,k,none⟩=some (.int .u8 b)) :
 Calls Tryz.prog 134 #[.int .i64 k,.int .u32 q,.pointer (some ⟨q2,0,none⟩),.pointer (some ⟨q1,0,none⟩)] w fun e w'=>e=.returned (.tuple #[])∧w'=w.drew.setCell ⟨g,q,none⟩ (.int .u8 b):=by
 have hmx:Tryz.prog.follows .mixedOrders=true:=by kernel_rfl
 obtain ⟨⟨c0,c1,c2⟩,-⟩:=cells379 h.hp
 have hg:=h.cell hq
 have hf:=h.froz q
 have hki:(k:Int)<4:=by omega
 have hqi:(q:Int)<(N:Int):=by omega
 clear h
 go_enter Tryz.func134,Tryz.ntmps134
 go_wp2_with fail
 refine wp_region_still_tail 9 hmx (by kernel_rfl) ?_
 simp only [List.take_succ_cons,List.take_zero,List.drop_succ_cons,List.drop_zero]
 repeat still_step
 refine wpStill_nil ?_
 change wpList _ _ _ _ _ w.drew
 go_wp2
 go_end0
 exact ⟨rfl,rfl⟩
end
section
variable {w:World} {p g c N:Nat} {vt:Value} {d:List Nat} {logs:Bool} {tou:List (Nat×Bool)}
def fourV (v:Nat):Array Value:=#[.int .u8 ((v:Int) % 256),.int .u8 ((v:Int) / 256 % 256),.int .u8 ((v:Int) / 65536 % 256),.int .u8 ((v:Int) / 16777216)]
theorem fourV_at {v k:Nat} (hv:v<4294967296) (hk:k<4):(fourV v)[k]?=some (.int .u8 ((v / 256 ^ k % 256:Nat):Int)):=by
 have:k=0 ∨ k=1 ∨ k=2 ∨ k=3:=by omega
 rcases this with rfl|rfl|rfl|rfl
 ·show some (Value.int .u8 _)=_
  simp
 ·show some (Value.int .u8 _)=_
  simp
 ·show some (Value.int .u8 _)=_
  simp
 ·show some (Value.int .u8 _)=_
  simp only [Option.some.injEq,Value.int.injEq,true_and]
  omega
theorem store_any (h:MemAt w p g c N vt d logs tou) {a v n:Nat} (ha:a<4294967296) (hv:v<4294967296) (hn:n≤4) :
 Calls Tryz.prog 95 #[.pointer (some ⟨p,0,none⟩),.int .u32 a,.int .u32 v,.int .i64 n] w fun e w'=>e=.returned (.tuple #[])∧∃ vt',MemAt w' p g c N vt' (storeN d a v n) logs (touL logs tou (touN N a n true))∧Fr w w' (memF p g vt) (memF p g vt'):=by
 obtain ⟨W0,hW0⟩:∃ W0,W0=w.alloc (.cells #[.pointer (some ⟨p,0,none⟩)] 83):=⟨_,rfl⟩
 have hb0:Below w.heap.size w W0:=by rw [hW0];exact Bel.new _ _
 have hh0:W0.heap[w.heap.size]?=some (.cells #[.pointer (some ⟨p,0,none⟩)] 83 (0,0)):=by rw [hW0];exact heap_alloc_new _ _
 have hc0:=cell_of_row W0 w.heap.size 0 _ _ _ hh0
 have hmd:=made_any (h.below hb0)
 go_enter Tryz.func95,Tryz.ntmps95
 go_wp2_with fail
 rw [← hW0]
 refine hmd.mono ?_
 rintro e w1 ⟨rfl,rfl⟩
 have HM:=Lib.hid h
 obtain ⟨W1,hW1⟩:∃ W1,W1=(w.alloc (.cells #[.pointer (some ⟨p,0,none⟩)] 83)).alloc (.cells (fourV v) 202):=⟨_,rfl⟩
 have HB1:=Lib.hid (show Below w.heap.size w W1 from by rw [hW1];exact Bel.al (Bel.new _ _) _)
 have hg1:W1.heap[w.heap.size]?=some (.cells #[.pointer (some ⟨p,0,none⟩)] 83 (0,0)):=by rw [hW1,Below.heap_alloc _ _ _ (by simp)];exact heap_alloc_new _ _
 have hg2:W1.heap[w.heap.size+1]?=some (.cells (fourV v) 202 (0,0)):=by
  rw [hW1]
  have:=heap_alloc_new (w.alloc (.cells #[.pointer (some ⟨p,0,none⟩)] 83)) (.cells (fourV v) 202)
  simpa using this
 have hlt1:=(Array.getElem?_eq_some_iff.1 hg1).1
 have hlt2:=(Array.getElem?_eq_some_iff.1 hg2).1
 have HEa:=Lib.hid (each_any 134 (.pointer (some ⟨w.heap.size+1,0,none⟩)) (.pointer (some ⟨w.heap.size,0,none⟩)) (fun _=>False) (fun b=>b=w.heap.size ∨ b=w.heap.size+1)
  (fun _ W=>W.heap[w.heap.size]?=some (.cells #[.pointer (some ⟨p,0,none⟩)] 83 (0,0))∧W.heap[w.heap.size+1]?=some (.cells (fourV v) 202 (0,0)))
  (fun k=>storeN d a v k) true n a callFunc345 (by omega) ha (HM.out.below HB1.out)
  (fun b hb=>⟨by rcases hb with rfl|rfl <;> assumption,by have:=HM.out.plt;rcases hb with rfl|rfl <;> omega,fun e=>by
   have:b<w.heap.size:=by
    rcases HM.out.tr.2 with ⟨e1,-⟩|⟨g',cap,cur,e1,-,hg',-⟩
    ·rw [e1] at e;cases e
    ·rw [e1] at e;cases e
     exact (Array.getElem?_eq_some_iff.1 hg').1
   rcases hb with rfl|rfl <;> omega⟩)
  (fun k W W' hJ hs hR=>⟨(hR _ (.inl rfl)).trans hJ.1,(hR _ (.inr rfl)).trans hJ.2⟩) ⟨hg1,hg2⟩
  (fun k hk W u t hm hJ hs hu=>by
   have hN:=hm.sizes.1
   have hq:(a+k) % N<N:=Nat.mod_lt _ (by omega)
   refine (store1_any hm (by omega) hq (cell_of_row W _ 0 _ _ _ hJ.1) ((cell_of_row W _ k _ _ _ hJ.2).trans (fourV_at hv (by omega)))).mono ?_
   rintro e W' ⟨rfl,rfl⟩
   have hgl:=HM.out.glt
   have hmd:=(hm.below (Below.refl _ _).drew).put hq (x:=v / 256 ^ k % 256) (Nat.mod_lt _ (by decide))
   refine ⟨rfl,?_,⟨(Below.heap_setCell _ _ _ _ (by show w.heap.size≠g;omega)).trans hJ.1,(Below.heap_setCell _ _ _ _ (by show w.heap.size+1≠g;omega)).trans hJ.2⟩,?_⟩
   ·have hl:=hm.len
    show MemAt _ p g c N u (putN (storeN d a v k) (a+k) (v / 256 ^ k % 256)) logs t
    unfold putN
    rw [hl]
    exact hmd
   ·exact ((Fr.refl W (fun b=>b=g ∨ False)).drew).trans (Fr.setCell W.drew (F:=fun b=>b=g ∨ False) (a:=⟨g,_,none⟩) (.inl rfl) _)))
 clear h hb0 hh0 hmd hg1 hg2 hlt1 hlt2
 have hv1:(fourV v)=#[.int .u8 ((v:Int) % 256),.int .u8 ((v:Int) / 256 % 256),.int .u8 ((v:Int) / 65536 % 256),.int .u8 ((v:Int) / 16777216)]:=rfl
 rw [hv1] at hW1
 clear hv1
 go_wp2_with fail
 rw [← hW0] at *
 rw [← hW1]
 refine HEa.out.mono ?_
 rintro e w2 ⟨rfl,vt',he⟩
 have HF:=Lib.hid he
 clear he
 go_wp2_with fail
 go_end0
 exact ⟨rfl,vt',HF.out.m,HF.out.out HB1.out (fun b h=>h.elim)⟩
end
section
variable {w:World} {p g c N:Nat} {vt:Value} {d:List Nat} {logs:Bool} {tou:List (Nat×Bool)}
theorem load1_any (h:MemAt w p g c N vt d logs tou) {k q q1 q2:Nat} (hk:k<4) (hq:q<N) {v0:Value} (h1:w.cell? ⟨q1,0,none⟩=some (.pointer (some ⟨p,0,none⟩))) (h2:w.cell? ⟨q2,k,none⟩=some v0) (h3:w.frozen? ⟨q2,k,none⟩=false) :
 Calls Tryz.prog 176 #[.int .i64 k,.int .u32 q,.pointer (some ⟨q1,0,none⟩),.pointer (some ⟨q2,0,none⟩)] w fun e w'=>e=.returned (.tuple #[])∧w'=w.setCell ⟨q2,k,none⟩ (.int .u8 (d.getD q 0:Nat)):=by
 obtain ⟨⟨c0,c1,c2⟩,-⟩:=cells379 h.hp
 have hg:=h.cell hq
 have hki:(k:Int)<4:=by omega
 have hqi:(q:Int)<(N:Int):=by omega
 clear h
 generalize d.getD q 0=x at *
 go_enter Tryz.func176,Tryz.ntmps176
 go_wp2_with fail
 go_end0
 exact ⟨rfl,rfl⟩
def loadX (d:List Nat) (a k j:Nat):Nat:=if j<k then byteAt d (a+j) else 0
def loadV (d:List Nat) (a k:Nat):Array Value:=#[.int .u8 (loadX d a k 0),.int .u8 (loadX d a k 1),.int .u8 (loadX d a k 2),.int .u8 (loadX d a k 3)]
theorem loadV_zero (d:List Nat) (a:Nat):loadV d a 0=#[.int .u8 0,.int .u8 0,.int .u8 0,.int .u8 0]:=rfl
theorem loadV_set (d:List Nat) (a:Nat) {k:Nat} (hk:k<4):(loadV d a k).setIfInBounds k (.int .u8 (byteAt d (a+k)))=loadV d a (k+1):=by
 have:k=0 ∨ k=1 ∨ k=2 ∨ k=3:=by omega
 rcases this with rfl|rfl|rfl|rfl <;> rfl
theorem loadN_sum (d:List Nat) (a:Nat) {n:Nat} (hn:n≤4):loadN d a n=loadX d a n 0+loadX d a n 1 * 256+loadX d a n 2 * 65536+loadX d a n 3 * 16777216:=by
 have:n=0 ∨ n=1 ∨ n=2 ∨ n=3 ∨ n=4:=by omega
 rcases this with rfl|rfl|rfl|rfl|rfl <;> simp [loadN,loadX]
theorem byteAt_lt (hd:∀ x ∈ d,x<256) (a:Nat):byteAt d a<256:=by
 unfold byteAt
 rw [List.getD_eq_getElem?_getD]
 cases e:d[a % d.length]? with
 | none=>decide
 | some x=>exact hd x (List.mem_of_getElem? e)
theorem loadX_lt (hd:∀ x ∈ d,x<256) (a k j:Nat):loadX d a k j<256:=by
 unfold loadX
 split
 ·exact byteAt_lt hd _
 ·decide
theorem or32_fact (n x k:Nat) (q:Int) (hq:q=((256 ^ k:Nat):Int)) (hk:k<4) (hn:n<256 ^ k) (hx:x<256) :
 ∃ y m:Nat,m=n+x * 256 ^ k∧m<256 ^ (k+1)∧(x:Int) * q % 4294967296=(y:Int)∧bits .or .u32 (n:Int) (y:Int)=(m:Int):=by
 have hp:(256:Nat) ^ (k+1)≤256 ^ 4:=Nat.pow_le_pow_right (by decide) (by omega)
 have h8':(256:Nat) ^ 4=4294967296:=by decide
 have hy:x * 256 ^ k+256 ^ k≤256 ^ (k+1):=by
  rw [Nat.pow_succ,Nat.mul_comm (256 ^ k) 256]
  have:=Nat.mul_le_mul_right (256 ^ k) (show x+1≤256 by omega)
  rw [Nat.succ_mul] at this
  exact this
 refine ⟨x * 256 ^ k,n+x * 256 ^ k,rfl,by omega,?_,?_⟩
 ·have e:((x:Nat):Int) * q=((x * 256 ^ k:Nat):Int):=by rw [hq,Int.natCast_mul]
  rw [e]
  omega
 ·rw [u32_or_nat _ _ (by omega) (by omega)]
  congr 1
  have e2:(256:Nat) ^ k=2 ^ (8 * k):=by rw [Nat.pow_mul]
  rw [e2] at hn ⊢
  rw [Nat.or_comm,Nat.mul_comm x,← Nat.two_pow_add_eq_or_of_lt hn]
  omega
theorem zq477 (w:World):(zeroValue 202).run Tryz.prog w=.ok (.agg #[.int .u8 0,.int .u8 0,.int .u8 0,.int .u8 0]) w:=by kernel_rfl
theorem mload_any (h:MemAt w p g c N vt d logs tou) {a n:Nat} (ha:a<4294967296) (hn:n≤4) :
 Calls Tryz.prog 149 #[.pointer (some ⟨p,0,none⟩),.int .u32 a,.int .i64 n] w fun e w'=>e=.returned (.int .u32 (loadN d a n))∧∃ vt',MemAt w' p g c N vt' d logs (touL logs tou (touN N a n false))∧Fr w w' (memF p g vt) (memF p g vt'):=by
 have hz:=zq477
 obtain ⟨W1,hW1⟩:∃ W1,W1=(w.alloc (.cells #[.pointer (some ⟨p,0,none⟩)] 83)).alloc (.cells #[.int .u8 0,.int .u8 0,.int .u8 0,.int .u8 0] 202):=⟨_,rfl⟩
 have hb1:Below w.heap.size w W1:=by rw [hW1];exact Bel.al (Bel.new _ _) _
 have hg1:W1.heap[w.heap.size]?=some (.cells #[.pointer (some ⟨p,0,none⟩)] 83 (0,0)):=by rw [hW1,Below.heap_alloc _ _ _ (by simp)];exact heap_alloc_new _ _
 have hg2:W1.heap[w.heap.size+1]?=some (.cells (loadV d a 0) 202 (0,0)):=by
  rw [hW1]
  have:=heap_alloc_new (w.alloc (.cells #[.pointer (some ⟨p,0,none⟩)] 83)) (.cells (loadV d a 0) 202)
  rw [loadV_zero] at this ⊢
  simpa using this
 have hc0:=cell_of_row W1 w.heap.size 0 _ _ _ hg1
 have hmd:=made_any (h.below hb1)
 go_enter Tryz.func149,Tryz.ntmps149
 go_wp2_with fail
 rw [← hW1]
 refine hmd.mono ?_
 rintro e w1 ⟨rfl,rfl⟩
 have HM:=Lib.hid h
 have HB1:=Lib.hid hb1
 have hlt1:=(Array.getElem?_eq_some_iff.1 hg1).1
 have hlt2:=(Array.getElem?_eq_some_iff.1 hg2).1
 have HEa:=Lib.hid (each_any 176 (.pointer (some ⟨w.heap.size,0,none⟩)) (.pointer (some ⟨w.heap.size+1,0,none⟩)) (fun b=>b=w.heap.size+1) (fun b=>b=w.heap.size ∨ b=w.heap.size+1)
  (fun k W=>W.heap[w.heap.size]?=some (.cells #[.pointer (some ⟨p,0,none⟩)] 83 (0,0))∧W.heap[w.heap.size+1]?=some (.cells (loadV d a k) 202 (0,0)))
  (fun _=>d) false n a callFunc468 (by omega) ha (HM.out.below HB1.out)
  (fun b hb=>⟨by rcases hb with rfl|rfl <;> assumption,by have:=HM.out.plt;rcases hb with rfl|rfl <;> omega,fun e=>by
   have:b<w.heap.size:=by
    rcases HM.out.tr.2 with ⟨e1,-⟩|⟨g',cap,cur,e1,-,hg',-⟩
    ·rw [e1] at e;cases e
    ·rw [e1] at e;cases e
     exact (Array.getElem?_eq_some_iff.1 hg').1
   rcases hb with rfl|rfl <;> omega⟩)
  (fun k W W' hJ hs hR=>⟨(hR _ (.inl rfl)).trans hJ.1,(hR _ (.inr rfl)).trans hJ.2⟩) ⟨hg1,hg2⟩
  (fun k hk W u t hm hJ hs hu=>by
   have hN:=hm.sizes.1
   have hq:(a+k) % N<N:=Nat.mod_lt _ (by omega)
   have hk4:k<4:=by omega
   have hsz:k<(loadV d a k).size:=by show k<4;exact hk4
   refine (load1_any hm hk4 hq (cell_of_row W _ 0 _ _ _ hJ.1) ((cell_of_row W _ k _ _ _ hJ.2).trans (Array.getElem?_eq_getElem hsz)) (frozen_of_row W _ k _ _ hJ.2)).mono ?_
   rintro e W' ⟨rfl,rfl⟩
   have hgl:=HM.out.glt
   have hpl:=HM.out.plt
   have e1:d.getD ((a+k) % N) 0=byteAt d (a+k):=by unfold byteAt;rw [hm.len]
   rw [e1]
   have hfr:Fr W (W.setCell ⟨w.heap.size+1,k,none⟩ (.int .u8 (byteAt d (a+k)))) (fun b=>b=w.heap.size+1) (fun b=>b=w.heap.size+1):=Fr.setCell W (F:=fun b=>b=w.heap.size+1) (a:=⟨w.heap.size+1,k,none⟩) rfl _
   refine ⟨rfl,hm.fr hfr ?_,⟨(Below.heap_setCell _ _ _ _ (by show w.heap.size≠w.heap.size+1;omega)).trans hJ.1,?_⟩,hfr.mono (fun i hi=>.inr hi) (fun i hi=>.inl hi)⟩
   ·rintro b (rfl|rfl|e) hb
    ·omega
    ·omega
    ·exact hu _ (.inr hb) e
   ·rw [← loadV_set d a hk4]
    exact heap_setCell_same W _ k _ _ _ hJ.2))
 clear hb1 hmd hlt1 hlt2 hg1 hg2 hc0
 have HW1:=Lib.hid hW1
 go_wp2_with fail
 rw [← HW1.out]
 refine HEa.out.mono ?_
 rintro e w2 ⟨rfl,vt',he⟩
 have HF:=Lib.hid he
 have hh:=he.j.2
 have d0:=cell_of_row w2 (w.heap.size+1) 0 _ _ _ hh
 have d1:=cell_of_row w2 (w.heap.size+1) 1 _ _ _ hh
 have d2:=cell_of_row w2 (w.heap.size+1) 2 _ _ _ hh
 have d3:=cell_of_row w2 (w.heap.size+1) 3 _ _ _ hh
 replace d0:w2.cell? ⟨w.heap.size+1,0,none⟩=some (.int .u8 (loadX d a n 0)):=d0
 replace d1:w2.cell? ⟨w.heap.size+1,1,none⟩=some (.int .u8 (loadX d a n 1)):=d1
 replace d2:w2.cell? ⟨w.heap.size+1,2,none⟩=some (.int .u8 (loadX d a n 2)):=d2
 replace d3:w2.cell? ⟨w.heap.size+1,3,none⟩=some (.int .u8 (loadX d a n 3)):=d3
 have l0:=loadX_lt h.lt a n 0
 have l1:=loadX_lt h.lt a n 1
 have l2:=loadX_lt h.lt a n 2
 have l3:=loadX_lt h.lt a n 3
 have HSum:=Lib.hid (loadN_sum d a hn)
 generalize loadX d a n 0=x0 at *
 generalize loadX d a n 1=x1 at *
 generalize loadX d a n 2=x2 at *
 generalize loadX d a n 3=x3 at *
 obtain ⟨y1,m1,hm1,lm1,hy1,ho1⟩:=or32_fact x0 x1 1 256 (by decide) (by decide) (by omega) l1
 obtain ⟨y2,m2,hm2,lm2,hy2,ho2⟩:=or32_fact m1 x2 2 65536 (by decide) (by decide) (by omega) l2
 obtain ⟨y3,m3,hm3,lm3,hy3,ho3⟩:=or32_fact m2 x3 3 16777216 (by decide) (by decide) (by omega) l3
 have hx0:(x0:Int) % 4294967296=(x0:Int):=by omega
 have hx1:(x1:Int) % 4294967296=(x1:Int):=by omega
 have hx2:(x2:Int) % 4294967296=(x2:Int):=by omega
 have hx3:(x3:Int) % 4294967296=(x3:Int):=by omega
 have HL:Hid (loadN d a n=m3):=Lib.hid (by rw [HSum.out,hm3,hm2,hm1];try omega)
 clear he hh l0 l1 l2 l3 HSum hm1 lm1 hm2 lm2 hm3 lm3 h
 go_wp2_with fail
 go_ret
 exact ⟨by rw [HL.out];rfl,vt',HF.out.m,HF.out.out HB1.out (fun b h=>by omega)⟩
end
section
variable {w:World} {p g c N:Nat} {vt:Value} {d:List Nat} {logs:Bool} {tou:List (Nat×Bool)}
theorem plain_on (h:MemAt w p g c N vt d true tou) (a n:Nat) :
 Calls Tryz.prog 179 #[.pointer (some ⟨p,0,none⟩),.int .u32 a,.int .i64 n] w fun e w'=>e=.returned (.bool false)∧Below w.heap.size w w':=by
 have hmx:Tryz.prog.follows .mixedOrders=true:=by kernel_rfl
 obtain ⟨⟨c0,c1,c2⟩,-⟩:=cells379 h.hp
 clear h
 go_enter Tryz.func179,Tryz.ntmps179
 go_wp2_with fail
 go_quiet (fail)
 go_wp2
 go_ret
 exact ⟨rfl,below_drewN (Below.refl _ _) nq⟩
theorem plain_off (h:MemAt w p g c N vt d false tou) (a n:Nat) (ha:a<4294967296) (hn:n≤65536) :
 Calls Tryz.prog 179 #[.pointer (some ⟨p,0,none⟩),.int .u32 a,.int .i64 n] w fun e w'=>e=.returned (.bool (decide (a % N+n≤N)))∧Below w.heap.size w w':=by
 have hmx:Tryz.prog.follows .mixedOrders=true:=by kernel_rfl
 obtain ⟨⟨c0,c1,c2⟩,-⟩:=cells379 h.hp
 have hN:=h.sizes.2.1
 have hN0:=h.sizes.1
 have hpl:=h.plt
 have HP:=Lib.hid (fun (W:World) (hb:Below w.heap.size w W)=>place_any (h.below hb) a ha)
 have HS:=Lib.hid (⟨⟨c0,c1⟩,(Below.refl _ _).drew⟩:(w.drew.cell? ⟨p,0,none⟩=some (.slice (some ⟨g,0,none⟩) N c)∧w.drew.cell? ⟨p,1,none⟩=some (.bool false))∧Below w.heap.size w w.drew)
 have hq:a % N<N:=Nat.mod_lt _ (by omega)
 generalize a % N=q at *
 have hw1:IntKind.i64.wrap ((q:Int)+(n:Int))=(q:Int)+(n:Int):=IntWalk.i64_in _ (by omega)
 clear h c0 c1 c2
 go_enter Tryz.func179,Tryz.ntmps179
 go_wp2_with fail
 go_region_held3 (fun w'=>(w'.cell? ⟨p,0,none⟩=some (.slice (some ⟨g,0,none⟩) N c)∧w'.cell? ⟨p,1,none⟩=some (.bool false))∧Below w.heap.size w w')
  (first|assumption|exact HS.out)
  ((go_at_call 163;refine (HP.out _ ?_).mono ?_;exact (by assumption:(_∧_)∧Below w.heap.size w _).2;rintro e wR ⟨rfl,rfl⟩))
 go_wp2
 go_ret
 have hw0:IntKind.i64.wrap (q:Int)=(q:Int):=IntWalk.i64_in _ (by omega)
 exact ⟨ret_boolE (by rw [hw0,hw1,Bool.eq_iff_iff];simp;omega),(by assumption:(_∧_)∧Below w.heap.size w _).2⟩
theorem plain_any (h:MemAt w p g c N vt d logs tou) (a n:Nat) (ha:a<4294967296) (hn:n≤65536) :
 Calls Tryz.prog 179 #[.pointer (some ⟨p,0,none⟩),.int .u32 a,.int .i64 n] w fun e w'=>e=.returned (.bool (!logs && decide (a % N+n≤N)))∧Below w.heap.size w w':=by
 cases logs
 ·simpa using plain_off h a n ha hn
 ·simpa using plain_on h a n
end
theorem ModAt.below {W W':World} {B mb:Nat} {m:Img} (h:ModAt W B mb m) (hb:Below W.heap.size W W'):ModAt W' B mb m:=by
 obtain ⟨h0,tb,b,vm,uc,vd,uj,ud,un,hm,ht,⟨c0,c1,c2,c3,c4,c5,c6,c7,c8,c9,c10,c11⟩,hi,⟨B',hB,hf⟩,hd,hv⟩:=h
 have hl:=World.block_lt_of_cell? _ _ hm
 have hl2:=World.block_lt_of_cell? _ _ c0
 exact ⟨h0,tb,b,vm,uc,vd,uj,ud,un,(hb.cell (p:=⟨mb,0,none⟩) hl).trans hm,ht,
  ⟨(hb.cell (p:=⟨tb,0,none⟩) hl2).trans c0,(hb.cell (p:=⟨tb,1,none⟩) hl2).trans c1,(hb.cell (p:=⟨tb,2,none⟩) hl2).trans c2,(hb.cell (p:=⟨tb,3,none⟩) hl2).trans c3,(hb.cell (p:=⟨tb,4,none⟩) hl2).trans c4,(hb.cell (p:=⟨tb,5,none⟩) hl2).trans c5,(hb.cell (p:=⟨tb,6,none⟩) hl2).trans c6,(hb.cell (p:=⟨tb,7,none⟩) hl2).trans c7,(hb.cell (p:=⟨tb,8,none⟩) hl2).trans c8,(hb.cell (p:=⟨tb,9,none⟩) hl2).trans c9,(hb.cell (p:=⟨tb,10,none⟩) hl2).trans c10,(hb.cell (p:=⟨tb,11,none⟩) hl2).trans c11⟩,
  hi.below hb,⟨B',hB,hf.below hb⟩,own_below hd hb,own_below hv hb⟩
theorem all_mod (mb tb:Nat) (w:World) (h:w.cell? ⟨mb,0,none⟩=some (.pointer (some ⟨tb,0,none⟩))) :
 Calls Tryz.prog 49 #[.pointer (some ⟨mb,0,none⟩)] w fun e w'=>e=.returned (.pointer (some ⟨tb,0,none⟩))∧w=w':=by
 go_enter Tryz.func49,Tryz.ntmps49
 go_wp2_with fail
 go_ret
 exact ⟨rfl,rfl⟩
theorem bitsOf_any (mb:Nat) (m:Img) (B:Nat) (w:World) (h:ModAt w B mb m) :
 Calls Tryz.prog 42 #[.pointer (some ⟨mb,0,none⟩)] w fun e w'=>e=.returned (.int .i64 (bitsI m))∧w=w':=by
 obtain ⟨h0,tb,b,vm,uc,vd,uj,ud,un,hm,ht,⟨c0,c1,c2,c3,c4,c5,c6,c7,c8,c9,c10,c11⟩,hi,⟨B',hB,hf⟩,hd,hv⟩:=h
 have HA:=Lib.hid (all_mod mb tb w hm)
 clear hi hf hd hv
 go_enter Tryz.func42,Tryz.ntmps42
 go_wp2_with fail
 refine HA.out.mono ?_
 rintro e w1 ⟨rfl,rfl⟩
 go_wp2_with fail
 go_ret
 exact ⟨rfl,rfl⟩
def depthAt (D:List Int) (i:Nat):Int:=D.getD i (-1)
theorem depth_any (xa:Option Addr) (xn xc:Nat) (D:List Int) (i:Nat) (hi:i<4294967296) (w:World) (B:Nat) (v:Value) (h:w.ownsRow B 3 1 v D.length (encZ D)) :
 Calls Tryz.prog 97 #[.agg #[.slice xa xn xc,v],.int .u32 i] w fun e w'=>e=.returned (.int .i64 (depthAt D i))∧Below w.heap.size w w':=by
 obtain ⟨sa,sc,rfl,hnc,hcm,hp⟩:=own_sl h
 have hl:(encZ D).length=D.length:=by simp [encZ]
 have hm:D.length≤9223372036854775807:=by unfold maxLen at hcm;omega
 have hu1:IntKind.u64.wrap ((i:Nat):Int)=((i:Nat):Int):=by rw [IntKind.wrap_u64];omega
 have hu2:IntKind.u64.wrap ((D.length:Nat):Int)=((D.length:Nat):Int):=by rw [IntKind.wrap_u64];omega
 by_cases hlt:i<D.length
 ·obtain ⟨g,rfl,hg,hc⟩:=hp (by omega)
  have hci:=hc i (by omega)
  have hge:¬ ((D.length:Int)≤(i:Int)):=by omega
  have hki:(i:Int)<(D.length:Int):=by omega
  have hk0:(0:Int)≤(i:Int):=by omega
  have hz:(encZ D)[i]?=some (.int .i64 (depthAt D i)):=by
   simp [encZ,depthAt,List.getD_eq_getElem?_getD,hlt]
  have hcell:=hci.trans hz
  have hcell':=((Bel.new w (.cells #[.slice xa xn xc,.slice (some ⟨g,0,none⟩) D.length sc] 115)).cell (p:=⟨g,i,none⟩) hg).trans hcell
  clear hp hc hci hz h
  go_enter Tryz.func97,Tryz.ntmps97
  go_wp2_with fail
  go_ret
  exact ⟨rfl,Bel.new w _⟩
 ·have hge:(D.length:Int)≤(i:Int):=by omega
  have hz:depthAt D i=-1:=by
   unfold depthAt
   rw [List.getD_eq_getElem?_getD,List.getElem?_eq_none (by omega)]
   rfl
  rw [hz]
  clear hp h
  go_enter Tryz.func97,Tryz.ntmps97
  go_wp2_with fail
  go_ret
  exact ⟨rfl,Bel.new w _⟩
theorem depthOf_any (mb:Nat) (m:Img) (B:Nat) (w:World) (h:ModAt w B mb m) (i:Nat) (hi:i<4294967296) :
 Calls Tryz.prog 55 #[.pointer (some ⟨mb,0,none⟩),.int .u32 i] w fun e w'=>e=.returned (.int .i64 (depthAt (flowN m.code m.js).1 i))∧Below w.heap.size w w':=by
 obtain ⟨h0,tb,b,vm,uc,vd,uj,ud,un,hm,ht,⟨c0,c1,c2,c3,c4,c5,c6,c7,c8,c9,c10,c11⟩,hio,⟨B',hB,hf⟩,hd,hv⟩:=h
 have HA:=Lib.hid (all_mod mb tb w hm)
 obtain ⟨a1,n1,rfl,-⟩:=own_sl hio.c
 have HD:=Lib.hid (depth_any a1 m.code.length n1 (flowN m.code m.js).1 i hi w B vd hd)
 obtain ⟨a2,n2,rfl,-⟩:=own_sl hd
 generalize (flowN m.code m.js).1=D at *
 clear hio hf hd hv
 go_enter Tryz.func55,Tryz.ntmps55
 go_wp2_with fail
 refine HA.out.mono ?_
 rintro e w1 ⟨rfl,rfl⟩
 go_wp2_with fail
 refine HD.out.mono ?_
 rintro e w1 ⟨rfl,hb⟩
 have HB:=Lib.hid hb
 clear hb
 go_wp2_with fail
 go_ret
 exact ⟨rfl,HB.out⟩
theorem image_any (mb:Nat) (m:Img) (B:Nat) (w:World) (hs:Small m) (h:ModAt w B mb m) (w0:World) (xc xj xd xn:Value) (hx:ImgAt w0 xc xj xd xn m) :
 Calls Tryz.prog 40 #[.pointer (some ⟨mb,0,none⟩)] w fun e w'=>∃ uc uj ud un,e=.returned (.agg #[uc,uj,ud,.int .u32 m.zero,.int .u32 m.stack,un])∧ImgOwn w' w.heap.size uc uj ud un m∧Below w.heap.size w w':=by
 obtain ⟨h0,tb,b,vm,uc,vd,uj,ud,un,hm,ht,⟨c0,c1,c2,c3,c4,c5,c6,c7,c8,c9,c10,c11⟩,hi,⟨B',hB,hf⟩,hd,hv⟩:=h
 have hz:=zero28
 have HI:=Lib.hid (hi.at hx)
 obtain ⟨a1,n1,rfl,-⟩:=own_sl hi.c
 obtain ⟨a2,n2,rfl,-⟩:=own_sl hi.j
 obtain ⟨a3,n3,rfl,-⟩:=own_sl hi.d
 obtain ⟨a4,n4,rfl,-⟩:=own_sl hi.n
 have hl1:=World.block_lt_of_cell? _ _ hm
 have hl2:=World.block_lt_of_cell? _ _ c0
 clear hi hf hd hv
 obtain ⟨Wa,hWa⟩:∃ Wa,Wa=w.alloc (.cells #[.slice none 0 0,.slice none 0 0,.slice none 0 0,.int .u32 0,.int .u32 0,.slice none 0 0] 28):=⟨_,rfl⟩
 have hba:Below w.heap.size w Wa:=by rw [hWa];exact Bel.new _ _
 have HA:=Lib.hid (all_mod mb tb Wa ((hba.cell (p:=⟨mb,0,none⟩) hl1).trans hm))
 have HCP:=Lib.hid (copied_any _ _ _ _ m hs Wa (HI.out.below hba))
 have e4:=(hba.cell (p:=⟨tb,4,none⟩) hl2).trans c4
 have e5:=(hba.cell (p:=⟨tb,5,none⟩) hl2).trans c5
 have e6:=(hba.cell (p:=⟨tb,6,none⟩) hl2).trans c6
 have e7:=(hba.cell (p:=⟨tb,7,none⟩) hl2).trans c7
 have e8:=(hba.cell (p:=⟨tb,8,none⟩) hl2).trans c8
 have e9:=(hba.cell (p:=⟨tb,9,none⟩) hl2).trans c9
 have hha:Wa.heap[w.heap.size]?=some (.cells #[.slice none 0 0,.slice none 0 0,.slice none 0 0,.int .u32 0,.int .u32 0,.slice none 0 0] 28):=by rw [hWa];exact heap_alloc_new w _
 have hsa:w.heap.size<Wa.heap.size:=by rw [hWa];simp
 have HHa:=Lib.hid hha
 have HBa:=Lib.hid hba
 clear c0 c1 c2 c3 c4 c5 c6 c7 c8 c9 c10 c11 hm hha hba
 go_enter Tryz.func40,Tryz.ntmps40
 go_wp2_with fail
 rw [← hWa]
 clear hWa
 refine HA.out.mono ?_
 rintro e w1 ⟨rfl,rfl⟩
 go_wp2_with fail
 refine HCP.out.mono ?_
 rintro e w2 ⟨uc,uj,ud,un,rfl,hio,hb2⟩
 obtain ⟨b1,m1,rfl,-⟩:=own_sl hio.c
 obtain ⟨b2,m2,rfl,-⟩:=own_sl hio.j
 obtain ⟨b3,m3,rfl,-⟩:=own_sl hio.d
 obtain ⟨b4,m4,rfl,-⟩:=own_sl hio.n
 have HH2:=Lib.hid ((hb2.block w.heap.size hsa).trans HHa.out)
 have HIO:=Lib.hid hio
 have HB2:=Lib.hid hb2
 clear hio hb2
 go_wp2_with (((with_reducible refine wpList_store_row (o:=⟨none,.store 28 (.tmp 2) (.tmp 8),_,_,_,none⟩) rfl 28 _ _ rfl w.heap.size #[.slice b1 m.code.length m1,.slice b2 m.js.length m2,.slice b3 m.data.length m3,.int .u32 m.zero,.int .u32 m.stack,.slice b4 m.lx.length m4] ?_ ?_ 28 _ HH2.out ?_ ?_ ?_ ?_);rfl;rfl;exact info28;rfl;(simp [Value.oneCell'])))
 refine bodyPost_ret (v:=.agg #[.slice b1 m.code.length m1,.slice b2 m.js.length m2,.slice b3 m.data.length m3,.int .u32 m.zero,.int .u32 m.stack,.slice b4 m.lx.length m4]) (results_cell_row Tryz.results40 _ _ w.heap.size 28 _ (0,0) _ rfl (setRow_heap _ _ _ _ _ _ HH2.out) Tryz.underlying28 rfl info28) rfl ⟨_,_,_,_,rfl,?_,?_⟩
 ·exact ⟨own_downT (own_setRow HIO.out.c hsa) (Nat.le_of_lt hsa),own_downT (own_setRow HIO.out.j hsa) (Nat.le_of_lt hsa),own_downT (own_setRow HIO.out.d hsa) (Nat.le_of_lt hsa),own_downT (own_setRow HIO.out.n hsa) (Nat.le_of_lt hsa)⟩
 ·exact (Bel.tr HBa.out HB2.out).trans (below_setRowB _ _ _ (Nat.le_refl _))
theorem run_build122 (w:World):(Instr.build 106 #[]).run Tryz.prog w=.ok (.agg #[.int .u8 0,.int .u32 0]) w:=by kernel_rfl
theorem zero122 (w:World):(zeroValue 106).run Tryz.prog w=.ok (.agg #[.int .u8 0,.int .u32 0]) w:=by kernel_rfl
def instrV (code:List (Nat×Nat)) (i:Nat):Value:=.agg #[.int .u8 (opAt code i),.int .u32 (argAt code i)]
theorem at_any (mb:Nat) (m:Img) (B:Nat) (w:World) (h:ModAt w B mb m) (i:Nat) (hi32:i<4294967296) (hl16:m.code.length≤16384) :
 Calls Tryz.prog 53 #[.pointer (some ⟨mb,0,none⟩),.int .u32 i] w fun e w'=>e=.returned (.tuple #[instrV m.code i,.bool (decide (i<m.code.length))])∧Below w.heap.size w w':=by
 have hz:=zero122
 have hb122:=run_build122
 obtain ⟨Wa,hWa⟩:∃ Wa,Wa=w.alloc (.cells #[.int .u8 0,.int .u32 0] 106):=⟨_,rfl⟩
 have hba:Below w.heap.size w Wa:=by rw [hWa];exact Bel.new _ _
 obtain ⟨h0,tb,b,vm,uc,vd,uj,ud,un,hm,ht,⟨c0,c1,c2,c3,c4,c5,c6,c7,c8,c9,c10,c11⟩,hi,⟨B',hB,hf⟩,hd,hv⟩:=h
 have hl1:=World.block_lt_of_cell? _ _ hm
 have hlt2:=World.block_lt_of_cell? _ _ c0
 have HA:=Lib.hid (all_mod mb tb Wa ((hba.cell (p:=⟨mb,0,none⟩) hl1).trans hm))
 have d2:=(hba.cell (p:=⟨tb,2,none⟩) hlt2).trans c2
 clear c0 c1 c2 c3 c4 c5 c6 c7 c8 c9 c10 c11 hm
 have hu1:IntKind.u64.wrap ((i:Nat):Int)=((i:Nat):Int):=by rw [IntKind.wrap_u64];omega
 have hu2:IntKind.u64.wrap ((m.code.length:Nat):Int)=((m.code.length:Nat):Int):=by rw [IntKind.wrap_u64];omega
 obtain ⟨a1,n1,rfl,hnc,hcm,hp⟩:=own_sl hi.c
 have hl2:=encI_length m.code
 unfold instrV
 by_cases hlt:i<m.code.length
 ·obtain ⟨g,rfl,hg,hc⟩:=hp (by omega)
  have q0:=((hba.cell (p:=⟨g,i * 2,none⟩) hg).trans (hc (i * 2) (by omega))).trans (encI_op m.code i hlt)
  have q1:=((hba.cell (p:=⟨g,i * 2+1,none⟩) hg).trans (hc (i * 2+1) (by omega))).trans (encI_arg m.code i hlt)
  have hge:¬ ((m.code.length:Int)≤(i:Int)):=by omega
  have hki:(i:Int)<(m.code.length:Int):=by omega
  have hk0:(0:Int)≤(i:Int):=by omega
  have hd1:decide (i<m.code.length)=true:=decide_eq_true hlt
  rw [hd1]
  unfold opAt argAt
  generalize m.code.getD i (0,0)=ins at *
  obtain ⟨o,a⟩:=ins
  simp only at q0 q1
  rw [hWa] at q0 q1 d2
  clear hp hc hf hd hv hi hba
  go_enter Tryz.func53,Tryz.ntmps53
  go_wp2_with fail
  rw [← hWa]
  refine HA.out.mono ?_
  rintro e w1 ⟨rfl,rfl⟩
  rw [hWa]
  go_wp2_with fail
  exact bodyPost_ret (v:=.tuple #[.agg #[.int .u8 o,.int .u32 a],.bool true]) (by simp [results,Tryz.results53,go_sem]) rfl ⟨rfl,Bel.new _ _⟩
 ·have hge:(m.code.length:Int)≤(i:Int):=by omega
  have hd1:decide (i<m.code.length)=false:=decide_eq_false hlt
  have hz1:opAt m.code i=0:=by unfold opAt;rw [List.getD_eq_getElem?_getD,List.getElem?_eq_none (by omega)];rfl
  have hz2:argAt m.code i=0:=by unfold argAt;rw [List.getD_eq_getElem?_getD,List.getElem?_eq_none (by omega)];rfl
  rw [hd1,hz1,hz2]
  rw [hWa] at d2
  clear hp hf hd hv hi hba
  go_enter Tryz.func53,Tryz.ntmps53
  go_wp2_with fail
  rw [← hWa]
  refine HA.out.mono ?_
  rintro e w1 ⟨rfl,rfl⟩
  rw [hWa]
  go_wp2_with fail
  exact bodyPost_ret (v:=.tuple #[.agg #[.int .u8 0,.int .u32 0],.bool false]) (by simp [results,Tryz.results53,go_sem]) rfl ⟨rfl,Bel.new _ _⟩
def prcN (m:Img) (x:Nat):Nat×Nat×Nat:=if x<m.code.length then (psTo m.code m.code.length).getD ((ofTo m.code m.code.length).getD x 0) (0,0,0) else (0,0,0)
def needN (m:Img) (x:Nat):Int:=if x<m.code.length then (flowN m.code m.js).2.1.getD ((ofTo m.code m.code.length).getD x 0) 0 else 0
def prcV (p:Nat×Nat×Nat) (n:Int):Value:=.agg #[.int .u32 p.1,.int .u32 p.2.1,.int .u32 p.2.2,.int .i64 n]
theorem info259:(Tryz.prog.info? 126).map (·.size)=some 4:=by kernel_rfl
theorem size259 (a b c d:Value):(Tryz.prog.info? 126).map (·.size)=some (#[a,b,c,d]:Array Value).size:=info259
theorem whereproc_any {w:World} {B b:Nat} {vp vo vt vm:Value} {ps:List (Nat×Nat×Nat)} {ofs:List Nat} {us:List Value} {ts:List (List Nat)} {ms:List Int} (h:PAt w B b vp vo vt ps ofs us ts)
 (hv:w.ownsRow 0 3 1 vm ms.length (encZ ms)) (k:Nat) (hk:k<ps.length) (hk2:k<ms.length) :
 Calls Tryz.prog 136 #[.agg #[.pointer (some ⟨b,0,none⟩),vm],.int .i64 k] w fun e w'=>e=.returned (prcV (ps.getD k (0,0,0)) (ms.getD k 0))∧Below w.heap.size w w':=by
 have hz39:=zero39
 obtain ⟨am,nm,rfl,hnc,hcm,hp⟩:=own_sl hv
 obtain ⟨g,rfl,hg,hc⟩:=hp (by omega)
 have hq:w.cell? ⟨g,k,none⟩=some (.int .i64 (ms.getD k 0)):=(hc k (by simpa [encZ] using hk2)).trans (by simp [encZ,List.getD_eq_getElem?_getD,hk2])
 obtain ⟨Wa,hWa⟩:∃ Wa,Wa=(w.alloc (.cells #[.pointer (some ⟨b,0,none⟩),.slice (some ⟨g,0,none⟩) ms.length nm] 113)).alloc (.cells #[.int .u32 0,.int .u32 0,.int .u32 0,.int .i64 0] 126):=⟨_,rfl⟩
 have hba:Below w.heap.size w Wa:=by rw [hWa];exact Bel.al (Bel.new _ _) _
 have hs0:Wa.heap.size=w.heap.size+2:=by rw [hWa];simp
 have HP:=Lib.hid (proc_any (h.below hba) (k:Int))
 unfold procN procV at HP
 rw [if_pos ⟨by omega,by omega⟩,Int.toNat_natCast] at HP
 have b1:Wa.cell? ⟨w.heap.size,1,none⟩=some (.slice (some ⟨g,0,none⟩) ms.length nm):=by rw [hWa];simp [go_sem]
 have hh0:Wa.heap[w.heap.size+1]?=some (.cells #[.int .u32 0,.int .u32 0,.int .u32 0,.int .i64 0] 126):=by
  rw [hWa]
  have:=heap_alloc_new (w.alloc (.cells #[.pointer (some ⟨b,0,none⟩),.slice (some ⟨g,0,none⟩) ms.length nm] 113)) (.cells #[.int .u32 0,.int .u32 0,.int .u32 0,.int .i64 0] 126)
  simpa using this
 unfold prcV
 generalize ps.getD k (0,0,0)=p at *
 obtain ⟨p0,p1,p2⟩:=p
 generalize ms.getD k 0=q at *
 have hki:(k:Int)<(ms.length:Int):=by omega
 have hk0:(0:Int)≤(k:Int):=by omega
 have hm:ms.length≤9223372036854775807:=by unfold maxLen at hcm;omega
 have HH0:=Lib.hid hh0
 have HBa:=Lib.hid hba
 clear h hv hp hc hh0 hba
 go_enter Tryz.func136,Tryz.ntmps136
 go_wp2_with fail
 rw [← hWa]
 refine HP.out.mono ?_
 rintro e w1 ⟨rfl,hb1⟩
 have d1:=(hb1.cell (p:=⟨w.heap.size,1,none⟩) (show w.heap.size<Wa.heap.size by omega)).trans b1
 have d2:=((Bel.tr HBa.out hb1).cell (p:=⟨g,k,none⟩) hg).trans hq
 have hg1:g<w1.heap.size:=by have:=hb1.size;omega
 have hg2:w1.heap.size≠g:=by omega
 have hz1:w.heap.size<w1.heap.size:=by have:=hb1.size;omega
 have hz2:w.heap.size+1<w1.heap.size:=by have:=hb1.size;omega
 have hz3:w1.heap.size≠w.heap.size:=by omega
 have hz4:w1.heap.size≠w.heap.size+1:=by omega
 have HH1:=Lib.hid ((hb1.block (w.heap.size+1) (by omega)).trans HH0.out)
 have HB1:=Lib.hid (Bel.tr HBa.out hb1)
 have HH2:=Lib.hid ((Below.heap_alloc w1 (.cells #[.int .u32 p0,.int .u32 p1,.int .u32 p2,.int .i64 q] 126) (w.heap.size+1) hz2).trans HH1.out)
 have hsz:=size259 (.int .u32 p0) (.int .u32 p1) (.int .u32 p2) (.int .i64 q)
 clear hb1 hWa b1 hq HP
 go_wp2_with (((with_reducible refine wpList_store_row (o:=⟨none,.store 126 (.tmp 4) (.tmp 20),_,_,_,none⟩) rfl 126 _ _ rfl (w.heap.size+1) #[.int .u32 p0,.int .u32 p1,.int .u32 p2,.int .i64 q] ?_ ?_ 126 _ HH2.out ?_ ?_ ?_ ?_);rfl;rfl;exact hsz;rfl;(simp [Value.oneCell'])))
 refine bodyPost_ret (v:=.agg #[.int .u32 p0,.int .u32 p1,.int .u32 p2,.int .i64 q]) (results_cell_row Tryz.results136 _ _ (w.heap.size+1) 126 _ (0,0) _ rfl (setRow_heap _ _ _ _ _ _ HH2.out) Tryz.underlying126 rfl info259) rfl ⟨rfl,?_⟩
 exact below_setRow (Bel.al HB1.out _) _ (by omega) _
def GoR.then (r q:GoR):GoR:=⟨q.st,r.tou++q.tou,r.ev++q.ev,q.reps,r.used+q.used,q.ask⟩
theorem goM_ask (m:Mo) (gr:List (Nat×Int)):∀ (f:Nat) (reps:List Rep) (s:St),(goM m gr f reps s).ask=if (goM m gr f reps s).st.life=1 then waitsM m gr (goM m gr f reps s).reps (goM m gr f reps s).st else none
 | 0,_,_=>rfl
 | f+1,reps,s=>by
  rw [goM]
  split
  ·exact goM_ask m gr f _ _
  ·rfl
theorem room_iff {m:Mo} {n a:Nat}:m.room n a=true ↔ 0≤m.depth a∧m.depth a≤n∧(n:Int) - m.depth a+m.need a≤64:=by
 simp only [Mo.room,Bool.and_eq_true,decide_eq_true_eq]
section
variable {m:Mo} (h:m.Ok)
include h
theorem Mo.Ok.dl:m.D.length=m.im.code.length:=h.d.dl
theorem Mo.Ok.ol:m.ofs.length=m.im.code.length:=h.f.tl.ol
theorem Mo.Ok.lt {a:Nat} (h0:0≤m.depth a):a<m.im.code.length:=by
 unfold Mo.depth at h0
 split at h0
 ·rename_i hh;rw [h.dl] at hh;exact hh
 ·omega
theorem Mo.Ok.depth_eq {a:Nat} (ha:a<m.im.code.length):m.depth a=m.D.getD a (-1):=by
 unfold Mo.depth;rw [if_pos (by rw [h.dl];exact ha)]
theorem Mo.Ok.need_eq {a:Nat} (ha:a<m.im.code.length):m.need a=m.ms.getD (m.ofs.getD a 0) 0:=by
 unfold Mo.need;rw [if_pos (by rw [h.ol];exact ha)]
theorem Mo.Ok.step {a:Nat} (h0:0≤m.depth a):(takesOf (opAt m.im.code a):Int)≤m.depth a∧(kindOf (opAt m.im.code a)=7→m.depth a=1)∧m.depth a≤m.need a ∧
 m.depth a - takesOf (opAt m.im.code a)+givesOf (opAt m.im.code a)≤m.need a ∧
 ∀ t ∈ nextN m.im.code m.im.js a,t<m.im.code.length∧m.depth t=m.depth a - takesOf (opAt m.im.code a)+givesOf (opAt m.im.code a)∧m.need t=m.need a:=by
 have ha:=h.lt h0
 have hc:=h.d.cl a ha (by rw [← h.depth_eq ha];exact h0)
 obtain ⟨f1,f2,f3⟩:=depFault_zero hc.f
 have m1:=hc.m1
 have m2:=hc.m2
 rw [h.need_eq ha,h.depth_eq ha]
 refine ⟨f1,f3,m1,m2,fun t ht=>?_⟩
 obtain ⟨n1,n2⟩:=h.f.next_of ha ht
 refine ⟨n1,?_,?_⟩
 ·rw [h.depth_eq n1];exact hc.nx t ht
 ·rw [h.need_eq n1]
  show m.ms.getD ((ofTo m.im.code m.im.code.length).getD t 0) 0=_
  rw [n2];rfl
theorem Mo.Ok.room_next {a t n n':Nat} (hr:m.room n a=true) (ht:t ∈ nextN m.im.code m.im.js a) (hn:(n':Int)=n - takesOf (opAt m.im.code a)+givesOf (opAt m.im.code a)):m.room n' t=true:=by
 obtain ⟨r1,r2,r3⟩:=room_iff.1 hr
 obtain ⟨s1,s2,s3,s4,s5⟩:=h.step r1
 obtain ⟨t1,t2,t3⟩:=s5 t ht
 rw [room_iff,t2,t3]
 omega
end
theorem putN_length (d:List Nat) (a x:Nat):(putN d a x).length=d.length:=by simp [putN]
theorem storeN_length (d:List Nat) (a v:Nat):∀ n,(storeN d a v n).length=d.length
 | 0=>rfl
 | n+1=>by rw [storeN,putN_length,storeN_length d a v n]
theorem writeTo_length (d:List Nat) (a:Nat) (b:List Nat):∀ n,(writeTo d a b n).length=d.length
 | 0=>rfl
 | n+1=>by rw [writeTo,putN_length,writeTo_length d a b n]
theorem writeN_length (d:List Nat) (a:Nat) (b:List Nat):(writeN d a b).length=d.length:=writeTo_length d a b _
theorem applyN_length (ws:List (Nat×List Nat)):∀ d:List Nat,(applyN d ws).length=d.length:=by
 induction ws with
 | nil=>intro d;rfl
 | cons w ws ih=>intro d;rw [applyN,List.foldl_cons];exact (ih _).trans (writeN_length _ _ _)
theorem drops_length (s:St) (i:Nat):(s.drops i).length=s.ops.length - i:=by
 rw [St.drops,List.length_take];omega
def tgk (o:Nat):Nat×Nat×Nat:=(takesOf o,givesOf o,kindOf o)
def tgkT (o:Nat):Nat×Nat×Nat :=
 if o=1 then (0,0,1) else if o=2 then (0,0,8) else if o=3 then (0,0,6) else if o=4 then (1,0,7) else if o=5 then (1,1,5) else if o=6 then (0,0,3) else if o=7 then (1,0,4)
 else if o≤9 then (0,1,1) else if o=10 then (1,0,1) else if o=11 then (1,2,1) else if o=12 then (1,0,1) else if o≤28 then (2,0,2) else if o≤31 then (1,1,1) else if o≤35 then (2,0,1)
 else if isUnOp o then (1,1,1) else (2,1,1)
theorem tgk_eq {o:Nat} (h:isOp o=true):tgk o=tgkT o:=by
 have h1:1≤o∧o≤59:=by simpa [isOp] using h
 have:∀ o<60,1≤o→tgk o=tgkT o:=by decide +kernel
 exact this o (by omega) h1.1
theorem fits_iff {m:Mo} {s:St} (h1:s.life=1):m.fits s=true ↔ s.data.length=2 ^ m.k∧s.sp % 4=0∧2 ^ m.k - m.im.stack≤s.sp∧s.sp≤m.top∧s.value=0∧s.fault=0∧m.room s.ops.length s.pc=true:=by
 unfold Mo.fits
 rw [h1,if_neg (by decide),if_neg (by decide),if_pos rfl]
 simp only [Bool.and_eq_true,decide_eq_true_eq]
 constructor
 ·rintro ⟨a,b,c,d,e,f,g⟩;exact ⟨a,b,c,d,e (by decide),f (by decide),g⟩
 ·rintro ⟨a,b,c,d,e,f,g⟩;exact ⟨a,b,c,d,fun _=>e,fun _=>f,g⟩
theorem fits_flt {m:Mo} {s:St} (h1:s.life=1) (h:m.fits s=true) {f:Nat} (f1:1≤f) (f8:f≤8):m.fits (s.flt f)=true:=by
 obtain ⟨a,b,c,d,e,g,r⟩:=(fits_iff h1).1 h
 unfold Mo.fits St.flt
 simp only [Bool.and_eq_true,decide_eq_true_eq]
 refine ⟨a,b,c,d,fun _=>e,fun h=>absurd rfl h,?_⟩
 rw [if_neg (by decide),if_pos trivial]
 simp only [Bool.and_eq_true,decide_eq_true_eq]
 exact ⟨f1,f8,r⟩
theorem next_plain {code:List (Nat×Nat)} {js:List Nat} {i:Nat} (h:kindOf (opAt code i)=1 ∨ kindOf (opAt code i)=6 ∨ kindOf (opAt code i)=5):i+1 ∈ nextN code js i:=by
 unfold nextN;rw [if_pos h];exact List.mem_singleton.2 rfl
theorem next_branch {code:List (Nat×Nat)} {js:List Nat} {i:Nat} (h:kindOf (opAt code i)=2):i+1 ∈ nextN code js i∧argAt code i ∈ nextN code js i:=by
 unfold nextN;rw [if_neg (by omega),if_pos h]
 split
 ·rename_i e;rw [← e];exact ⟨List.mem_singleton.2 rfl,List.mem_singleton.2 rfl⟩
 ·simp only [List.mem_cons,List.not_mem_nil,or_false];omega
theorem next_goto {code:List (Nat×Nat)} {js:List Nat} {i:Nat} (h:kindOf (opAt code i)=3):argAt code i ∈ nextN code js i:=by
 unfold nextN;rw [if_neg (by omega),if_neg (by omega),if_pos h];exact List.mem_singleton.2 rfl
section
variable {m:Mo} (h:m.Ok)
include h
theorem Mo.Ok.at_ {s:St} (h1:s.life=1) (hf:m.fits s=true):s.pc<m.im.code.length∧isOp (opAt m.im.code s.pc)=true∧(takesOf (opAt m.im.code s.pc):Int)≤s.ops.length∧s.ops.length≤64:=by
 obtain ⟨_,_,_,_,_,_,r⟩:=(fits_iff h1).1 hf
 obtain ⟨r1,r2,r3⟩:=room_iff.1 r
 obtain ⟨s1,s2,s3,s4,s5⟩:=h.step r1
 exact ⟨h.lt r1,h.f.op _ (h.lt r1),by omega,by omega⟩
theorem Mo.Ok.sizes:2 ^ 8≤2 ^ m.k∧2 ^ m.k≤65536∧m.im.stack≤2 ^ m.k∧64≤m.im.stack∧m.im.stack % 4=0∧2 ^ m.k % 4=0:=by
 have h1:(2:Nat) ^ 8≤2 ^ m.k:=Nat.pow_le_pow_right (by decide) h.k8
 have h2:(2:Nat) ^ m.k≤2 ^ 16:=Nat.pow_le_pow_right (by decide) h.k16
 have h3:=h.s
 have h4:=h.r
 simp only [stackN,Bool.and_eq_true,decide_eq_true_eq] at h3
 unfold roomN at h4
 have h5:(2:Nat) ^ m.k=4 * 2 ^ (m.k - 2):=by
  have e:m.k=(m.k - 2)+2:=by have:=h.k8;omega
  have:=Nat.pow_add 2 (m.k - 2) 2
  rw [← e] at this
  omega
 exact ⟨h1,h2,by omega,h3.2.1,h3.1,by omega⟩
theorem Mo.Ok.begin_ {a:Nat} (hb:m.begins a=true):m.depth a=0∧a<m.im.code.length:=by
 unfold Mo.begins beginsN at hb
 simp only [Bool.and_eq_true,decide_eq_true_eq,beq_iff_eq] at hb
 have ha:a<m.im.code.length:=by have:=h.ol;omega
 have hr:=h.f.tl.lt a ha
 have hb2:=h.d.beg (m.ofs.getD a 0) (by rw [h.d.ml];exact hr)
 have hb3:((psTo m.im.code m.im.code.length).getD (m.ofs.getD a 0) (0,0,0)).1=a:=hb.2
 rw [hb3] at hb2
 exact ⟨by rw [h.depth_eq ha];exact hb2,ha⟩
theorem Mo.Ok.back_ {r:Nat} (hb:m.back r=true):0≤m.depth r∧r<m.im.code.length:=by
 simp only [Mo.back,Bool.and_eq_true,decide_eq_true_eq] at hb
 obtain ⟨b1,b2,b3⟩:=hb
 have hop:=h.f.op _ (h.lt b2)
 have ht:=tgk_eq hop
 have e:opAt m.im.code (r - 1)=(m.im.code.getD (r - 1) (0,0)).1:=rfl
 rw [← e,b3] at ht
 simp only [tgk,tgkT] at ht
 have hk:kindOf (opAt m.im.code (r - 1))=5:=by rw [b3];simpa using congrArg (fun x=>x.2.2) ht
 obtain ⟨s1,s2,s3,s4,s5⟩:=h.step b2
 have:=s5 (r - 1+1) (next_plain (.inr (.inr hk)))
 rw [show r - 1+1=r from by omega] at this
 exact ⟨by omega,this.1⟩
theorem Mo.Ok.leave_arg {i:Nat} (hi:i<m.im.code.length) (ho:kindOf (opAt m.im.code i)=7):argAt m.im.code i % 4=0∧argAt m.im.code i≤4096:=by
 have hf:=h.f.hall i hi
 have hr:=h.f.tl.lt i hi
 have hfr:=h.f.tl.fr _ hr
 have hlo:=h.f.tl.lo i hi
 have hb:=(h.f.tl.bd _ hr).1
 have hmid:=h.f.tl.mid _ hr _ (Nat.le_refl _) hb
 have hen:=h.f.tl.en ((psTo m.im.code m.im.code.length).getD ((ofTo m.im.code m.im.code.length).getD i 0) (0,0,0)).1 (by omega)
 rw [hmid] at hen
 have h3:=hen.2 rfl
 have hfb:=h.f.hall ((psTo m.im.code m.im.code.length).getD ((ofTo m.im.code m.im.code.length).getD i 0) (0,0,0)).1 (by omega)
 generalize hB:((psTo m.im.code m.im.code.length).getD ((ofTo m.im.code m.im.code.length).getD i 0) (0,0,0)).1=B at *
 have hk6:kindOf (m.im.code.getD B (0,0)).1=6:=by rw [h3];decide +kernel
 unfold faultAt faultN faultK at hf hfb
 have ho':kindOf (m.im.code.getD i (0,0)).1=7:=ho
 rw [if_neg (by omega),if_pos ho'] at hf
 have harg:argAt m.im.code i=(m.im.code.getD B (0,0)).2:=by
  rw [← hfr]
  by_cases e:(m.im.code.getD i (0,0)).2=((psTo m.im.code m.im.code.length).getD ((ofTo m.im.code m.im.code.length).getD i 0) (0,0,0)).2.2
  ·exact e
  ·rw [if_pos e] at hf;cases hf
 rw [harg]
 by_cases e:(m.im.code.getD B (0,0)).2 % 4≠0 ∨ (m.im.code.getD B (0,0)).2=0 ∨ 4096<(m.im.code.getD B (0,0)).2
 ·rw [if_pos ⟨hk6,e⟩] at hfb;cases hfb
 ·omega
theorem Mo.Ok.enter_arg {i:Nat} (hi:i<m.im.code.length) (ho:kindOf (opAt m.im.code i)=6):argAt m.im.code i % 4=0∧argAt m.im.code i≤4096:=by
 have hf:=h.f.hall i hi
 unfold faultAt faultN faultK at hf
 have ho':kindOf (m.im.code.getD i (0,0)).1=6:=ho
 by_cases e:(m.im.code.getD i (0,0)).2 % 4≠0 ∨ (m.im.code.getD i (0,0)).2=0 ∨ 4096<(m.im.code.getD i (0,0)).2
 ·rw [if_pos ⟨ho',e⟩] at hf;cases hf
 ·unfold argAt;omega
end
theorem fits_done {m:Mo} {s:St} (h1:s.life=2):m.fits s=true ↔ s.data.length=2 ^ m.k∧s.sp % 4=0∧2 ^ m.k - m.im.stack≤s.sp∧s.sp≤m.top∧s.fault=0∧0≤m.depth s.pc∧opAt m.im.code s.pc=4∧(s.ops.length:Int)+m.need s.pc≤64:=by
 unfold Mo.fits
 rw [h1,if_neg (by decide),if_neg (by decide),if_neg (by decide),if_pos rfl]
 simp only [Bool.and_eq_true,decide_eq_true_eq]
 constructor
 ·rintro ⟨a,b,c,d,e,f,g⟩;exact ⟨a,b,c,d,f (by decide),g⟩
 ·rintro ⟨a,b,c,d,f,g⟩;exact ⟨a,b,c,d,fun h=>absurd rfl h,fun _=>f,g⟩
section
variable {m:Mo} (h:m.Ok)
include h
theorem Mo.Ok.leave {s:St} (h1:s.life=1) (hf:m.fits s=true) (ho:opAt m.im.code s.pc=4):m.fits (leaveM m (argAt m.im.code s.pc) s).1=true:=by
 obtain ⟨a1,a2,a3,a4⟩:=h.at_ h1 hf
 obtain ⟨p1,p2,p3,p4,p5,p6,p7⟩:=(fits_iff h1).1 hf
 obtain ⟨z1,z2,z3,z4,z5,z6⟩:=h.sizes
 obtain ⟨r1,r2,r3⟩:=room_iff.1 p7
 have hk7:kindOf (opAt m.im.code s.pc)=7:=by rw [ho];decide +kernel
 have ht1:takesOf (opAt m.im.code s.pc)=1:=by rw [ho];decide +kernel
 obtain ⟨l1,l2⟩:=h.leave_arg a1 hk7
 have hs7:=(h.step r1).2.1 hk7
 have htop:m.top=2 ^ m.k - 64:=rfl
 generalize argAt m.im.code s.pc=a at *
 have hw:(s.sp+a) % 4294967296=s.sp+a:=Nat.mod_eq_of_lt (by omega)
 unfold leaveM
 rw [hw]
 generalize loadN s.data (s.sp+a) 4=r
 by_cases c1:m.top<s.sp+a
 ·rw [if_pos c1];exact fits_flt h1 hf (by decide) (by decide)
 rw [if_neg c1]
 by_cases c2:r=4294967295
 ·rw [if_pos c2]
  refine (fits_done (s:={ s with life:=2,value:=topW s 0,sp:=s.sp+a,ops:=s.drops 1 }) rfl).2 ⟨p1,?_,?_,?_,p6,r1,ho,?_⟩
  ·show (s.sp+a) % 4=0;omega
  ·show _≤s.sp+a;omega
  ·show s.sp+a≤_;omega
  ·show ((s.drops 1).length:Int)+m.need s.pc≤64
   rw [drops_length];omega
 rw [if_neg c2]
 by_cases c3:m.back r=false ∨ (s.ops.length:Int)<m.depth r
 ·rw [if_pos c3];exact fits_flt h1 hf (by decide) (by decide)
 rw [if_neg c3]
 by_cases c4:64<(s.ops.length:Int) - m.depth r+m.need r
 ·rw [if_pos c4];exact fits_flt h1 hf (by decide) (by decide)
 rw [if_neg c4]
 have hb:m.back r=true:=by
  cases hb:m.back r
  ·exact absurd (.inl hb) c3
  ·rfl
 obtain ⟨b1,b2⟩:=h.back_ hb
 refine (fits_iff (s:={ s with sp:=s.sp+a,pc:=r }) h1).2 ⟨p1,?_,?_,?_,p5,p6,?_⟩
 ·show (s.sp+a) % 4=0;omega
 ·show _≤s.sp+a;omega
 ·show s.sp+a≤_;omega
 ·exact room_iff.2 ⟨b1,by simp only;omega,by simp only;omega⟩
end
section
variable {m:Mo} (h:m.Ok)
include h
theorem Mo.Ok.act {s:St} (h1:s.life=1) (hf:m.fits s=true):m.fits (actM m (opAt m.im.code s.pc) (argAt m.im.code s.pc) s).1=true:=by
 obtain ⟨a1,a2,a3,a4⟩:=h.at_ h1 hf
 obtain ⟨p1,p2,p3,p4,p5,p6,p7⟩:=(fits_iff h1).1 hf
 obtain ⟨z1,z2,z3,z4,z5,z6⟩:=h.sizes
 obtain ⟨r1,r2,r3⟩:=room_iff.1 p7
 have ht:=tgk_eq a2
 have hr:=fun (t n':Nat)=>h.room_next (t:=t) (n':=n') p7
 have hla:=h.leave_arg a1
 have hea:=h.enter_arg a1
 have hs7:=h.step r1
 have hnp:=next_plain (code:=m.im.code) (js:=m.im.js) (i:=s.pc)
 have hnb:=next_branch (code:=m.im.code) (js:=m.im.js) (i:=s.pc)
 have hng:=next_goto (code:=m.im.code) (js:=m.im.js) (i:=s.pc)
 have hop:1≤opAt m.im.code s.pc∧opAt m.im.code s.pc≤59:=by simpa [isOp] using a2
 have htop:m.top=2 ^ m.k - 64:=rfl
 have hlv:=h.leave h1 hf
 generalize argAt m.im.code s.pc=a at *
 generalize ho:opAt m.im.code s.pc=o at *
 -- a state that runs on
 have go:∀ s':St,s'.life=1→s'.data.length=s.data.length→s'.sp % 4=0→2 ^ m.k - m.im.stack≤s'.sp→s'.sp≤m.top→s'.value=s.value→s'.fault=s.fault→m.room s'.ops.length s'.pc=true→m.fits s'=true :=
  fun s' e1 e2 e3 e4 e5 e6 e7 e8=>(fits_iff e1).2 ⟨e2.trans p1,e3,e4,e5,e6.trans p5,e7.trans p6,e8⟩
 have Ho:=Lib.hid ho
 clear ho
 unfold tgk at ht
 rw [actM]
 generalize biR o (topW s 1) (topW s 0)=bi
 generalize unW o (topW s 0)=un
 generalize hoB o (topW s 1) (topW s 0)=hol
 unfold tgkT at ht
 by_cases c1:o=1
 ·have e:=c1;rw [if_pos c1];rw [if_pos e] at ht;simp only [Prod.mk.injEq] at ht
  exact go _ h1 rfl p2 p3 p4 rfl rfl (hr _ _ (hnp (by omega)) (by simp only;omega))
 rw [if_neg c1];have e1:=c1;rw [if_neg e1] at ht
 by_cases c2:o=2
 ·rw [if_pos c2];exact fits_flt h1 hf (by decide) (by decide)
 rw [if_neg c2];have e2:=c2;rw [if_neg e2] at ht
 by_cases c3:o=3
 ·have e:=c3;rw [if_pos c3];rw [if_pos e] at ht;simp only [Prod.mk.injEq] at ht
  have:=hea (by omega)
  split
  ·exact fits_flt h1 hf (by decide) (by decide)
  ·exact go _ h1 rfl (by simp only;omega) (by simp only;omega) (by simp only;omega) rfl rfl (hr _ _ (hnp (by omega)) (by simp only;omega))
 rw [if_neg c3];have e3:=c3;rw [if_neg e3] at ht
 by_cases c4:o=4
 ·rw [if_pos c4];exact hlv c4
 rw [if_neg c4];have e4:=c4;rw [if_neg e4] at ht
 by_cases c5:o=5
 ·have e:=c5;rw [if_pos c5];rw [if_pos e] at ht;simp only [Prod.mk.injEq] at ht
  unfold callM
  generalize topW s 0=r
  split
  ·exact fits_flt h1 hf (by decide) (by decide)
  split
  ·exact fits_flt h1 hf (by decide) (by decide)
  ·rename_i c1 c2
   obtain ⟨b1,b2⟩:=h.begin_ (a:=r) (by cases hb:m.begins r;exact absurd hb c1;rfl)
   exact go _ h1 (storeN_length ..) p2 p3 p4 rfl rfl (room_iff.2 ⟨by simp only;omega,by simp only;omega,by simp only [drops_length];omega⟩)
 rw [if_neg c5];have e5:=c5;rw [if_neg e5] at ht
 by_cases c6:o=6
 ·have e:=c6;rw [if_pos c6];rw [if_pos e] at ht;simp only [Prod.mk.injEq] at ht
  exact go _ h1 rfl p2 p3 p4 rfl rfl (hr _ _ (hng (by omega)) (by simp only;omega))
 rw [if_neg c6];have e6:=c6;rw [if_neg e6] at ht
 by_cases c7:o=7
 ·have e:=c7;rw [if_pos c7];rw [if_pos e] at ht;simp only [Prod.mk.injEq] at ht
  split
  ·rename_i c
   exact go _ h1 rfl p2 p3 p4 rfl rfl (hr _ _ (of_decide_eq_true c) (by simp only [drops_length];omega))
  ·exact fits_flt h1 hf (by decide) (by decide)
 rw [if_neg c7];have e7:=c7;rw [if_neg e7] at ht
 by_cases c8:o=8
 ·have e:=c8;rw [if_pos c8];rw [if_pos (by omega)] at ht;simp only [Prod.mk.injEq] at ht
  exact go _ h1 rfl p2 p3 p4 rfl rfl (hr _ _ (hnp (by omega)) (by simp;omega))
 rw [if_neg c8];have e8:=c8
 by_cases c9:o=9
 ·have e:=c9;rw [if_pos c9];rw [if_pos (by omega)] at ht;simp only [Prod.mk.injEq] at ht
  exact go _ h1 rfl p2 p3 p4 rfl rfl (hr _ _ (hnp (by omega)) (by simp;omega))
 rw [if_neg c9];have e9:=c9;rw [if_neg (by omega)] at ht
 by_cases c10:o=10
 ·have e:=c10;rw [if_pos c10];rw [if_pos e] at ht;simp only [Prod.mk.injEq] at ht
  exact go _ h1 rfl p2 p3 p4 rfl rfl (hr _ _ (hnp (by omega)) (by simp only [drops_length];omega))
 rw [if_neg c10];have e10:=c10;rw [if_neg e10] at ht
 by_cases c11:o=11
 ·have e:=c11;rw [if_pos c11];rw [if_pos e] at ht;simp only [Prod.mk.injEq] at ht
  exact go _ h1 rfl p2 p3 p4 rfl rfl (hr _ _ (hnp (by omega)) (by simp;omega))
 rw [if_neg c11];have e11:=c11;rw [if_neg e11] at ht
 by_cases c12:o=12
 ·have e:=c12;rw [if_pos c12];rw [if_pos e] at ht;simp only [Prod.mk.injEq] at ht
  exact go _ h1 (storeN_length ..) p2 p3 p4 rfl rfl (hr _ _ (hnp (by omega)) (by simp only [drops_length];omega))
 rw [if_neg c12];have e12:=c12;rw [if_neg e12] at ht
 by_cases c28:o≤28
 ·have e:=c28;rw [if_pos c28];rw [if_pos e] at ht;simp only [Prod.mk.injEq] at ht
  obtain ⟨n1,n2⟩:=hnb (by omega)
  refine go _ h1 rfl p2 p3 p4 rfl rfl ?_
  simp only [drops_length]
  split
  ·exact hr _ _ n2 (by omega)
  ·exact hr _ _ n1 (by omega)
 rw [if_neg c28];have e28:=c28;rw [if_neg e28] at ht
 by_cases c31:o≤31
 ·have e:=c31;rw [if_pos c31];rw [if_pos e] at ht;simp only [Prod.mk.injEq] at ht
  exact go _ h1 rfl p2 p3 p4 rfl rfl (hr _ _ (hnp (by omega)) (by simp [drops_length];omega))
 rw [if_neg c31];have e31:=c31;rw [if_neg e31] at ht
 by_cases c34:o≤34
 ·have e:=c34;rw [if_pos c34];rw [if_pos (by omega)] at ht;simp only [Prod.mk.injEq] at ht
  exact go _ h1 (storeN_length ..) p2 p3 p4 rfl rfl (hr _ _ (hnp (by omega)) (by simp only [drops_length];omega))
 rw [if_neg c34];have e34:=c34
 by_cases c35:o=35
 ·have e:=c35;rw [if_pos c35];rw [if_pos (by omega)] at ht;simp only [Prod.mk.injEq] at ht
  exact go _ h1 (writeN_length ..) p2 p3 p4 rfl rfl (hr _ _ (hnp (by omega)) (by simp only [drops_length];omega))
 rw [if_neg c35];have e35:=c35;rw [if_neg (by omega)] at ht
 by_cases cu:isUnOp o=true
 ·have e:=cu;rw [if_pos cu];rw [if_pos e] at ht;simp only [Prod.mk.injEq] at ht
  exact go _ h1 rfl p2 p3 p4 rfl rfl (hr _ _ (hnp (by omega)) (by simp [drops_length];omega))
 rw [if_neg cu];have eu:=cu;rw [if_neg eu] at ht;simp only [Prod.mk.injEq] at ht
 by_cases cb:bi.2≠0
 ·rw [if_pos cb];exact fits_flt h1 hf (by decide) (by decide)
 ·rw [if_neg cb];exact go _ h1 rfl p2 p3 p4 rfl rfl (hr _ _ (hnp (by omega)) (by simp [drops_length];omega))
end
theorem sysM_some {m:Mo} {s:St} {x:Nat} (h:sysM m s=some x):opAt m.im.code s.pc=5∧2147483648≤topW s 0∧x=4294967295 - topW s 0:=by
 unfold sysM at h
 split at h
 ·rename_i c;injection h with h;exact ⟨c.1,c.2,h.symm⟩
 ·cases h
section
variable {m:Mo} (h:m.Ok)
include h
theorem Mo.Ok.sys {s:St} (h1:s.life=1) (hf:m.fits s=true) {x:Nat} (hx:sysM m s=some x) (d:List Nat) (hd:d.length=s.data.length) (v:Nat) :
 m.fits { s with data:=d,ops:=s.drops 1++[v],pc:=s.pc+1 }=true:=by
 obtain ⟨x1,x2,x3⟩:=sysM_some hx
 obtain ⟨a1,a2,a3,a4⟩:=h.at_ h1 hf
 obtain ⟨p1,p2,p3,p4,p5,p6,p7⟩:=(fits_iff h1).1 hf
 have ht:=tgk_eq a2
 rw [x1] at ht a3
 have e1:takesOf 5=1:=by decide +kernel
 have e2:givesOf 5=1:=by decide +kernel
 have e3:kindOf 5=5:=by decide +kernel
 have hl:(s.drops 1++[v]).length=s.ops.length:=by
  rw [List.length_append,drops_length,List.length_singleton];omega
 refine (fits_iff (s:={ s with data:=d,ops:=s.drops 1++[v],pc:=s.pc+1 }) h1).2 ⟨by show d.length=_;rw [hd];exact p1,p2,p3,p4,p5,p6,?_⟩
 show m.room (s.drops 1++[v]).length (s.pc+1)=true
 refine h.room_next p7 (next_plain (.inr (.inr (by rw [x1];exact e3)))) ?_
 rw [hl,x1,e1,e2];omega
theorem Mo.Ok.stp {s:St} (h1:s.life=1) (hf:m.fits s=true) (gr:List (Nat×Int)) (reps:List Rep):m.fits (stepM m gr reps s).st=true:=by
 unfold stepM
 cases hx:sysM m s with
 | none=>exact h.act h1 hf
 | some x =>
  simp only
  split
  ·exact h.sys h1 hf hx _ (applyN_length _ _) _
  ·exact fits_flt h1 hf (by decide) (by decide)
end
def moOf (m:Img):Mo:=⟨m,(flowN m.code m.js).1,(flowN m.code m.js).2.1,bitsI m⟩
theorem findOk_nil {code:List (Nat×Nat)} {js ats:List Nat} (h:FindOk code js ats):FindOk code js []:=⟨h.he,h.h3,h.hall,h.hg,fun j hj=>absurd hj (Nat.not_lt_zero j)⟩
theorem moOk {m:Img} (h:TakeOk m):(moOf m).Ok:=by
 obtain ⟨hc1,hc2,hc3,hc4,hc5,hc6,hc7⟩:=checkI_ok h.k
 obtain ⟨b1,b2,b3⟩:=bitsI_spec (m:=m) (by omega)
 exact ⟨findOk_nil h.f,flowN_spec (findOk_nil h.f) h.r,hc4,b1,b2,b3⟩
theorem whereof_any {w:World} {B b:Nat} {vp vo vt vm:Value} {ps:List (Nat×Nat×Nat)} {ofs:List Nat} {us:List Value} {ts:List (List Nat)} {ms:List Int} (h:PAt w B b vp vo vt ps ofs us ts)
 (hv:w.ownsRow 0 3 1 vm ms.length (encZ ms)) (hof:∀ x,x<ofs.length→ofs.getD x 0<ps.length) (hml:ms.length=ps.length) (x:Nat) (hx:x<4294967296) :
 Calls Tryz.prog 96 #[.agg #[.pointer (some ⟨b,0,none⟩),vm],.int .u32 x] w fun e w' =>
  e=.returned (.tuple #[prcV (if x<ofs.length then ps.getD (ofs.getD x 0) (0,0,0) else (0,0,0)) (if x<ofs.length then ms.getD (ofs.getD x 0) 0 else 0),.bool (decide (x<ofs.length))])∧Below w.heap.size w w':=by
 have hz39:=zero39
 have hb39:=run_build39
 have Hml:=Lib.hid hml
 clear hml
 obtain ⟨am,nm,rfl,hnc,hcm,hp⟩:=own_sl hv
 obtain ⟨Wa,hWa⟩:∃ Wa,Wa=(w.alloc (.cells #[.pointer (some ⟨b,0,none⟩),.slice am ms.length nm] 113)).alloc (.cells #[.int .u32 0,.int .u32 0,.int .u32 0,.int .i64 0] 126):=⟨_,rfl⟩
 have hba:Below w.heap.size w Wa:=by rw [hWa];exact Bel.al (Bel.new _ _) _
 have hs0:Wa.heap.size=w.heap.size+2:=by rw [hWa];simp
 have HO:=Lib.hid (of_any (h.below hba) x hx)
 unfold ofN at HO
 have b0:Wa.cell? ⟨w.heap.size,0,none⟩=some (.pointer (some ⟨b,0,none⟩)):=by rw [hWa];simp [go_sem]
 have b1:Wa.cell? ⟨w.heap.size,1,none⟩=some (.slice am ms.length nm):=by rw [hWa];simp [go_sem]
 have hh0:Wa.heap[w.heap.size+1]?=some (.cells #[.int .u32 0,.int .u32 0,.int .u32 0,.int .i64 0] 126):=by
  rw [hWa]
  have:=heap_alloc_new (w.alloc (.cells #[.pointer (some ⟨b,0,none⟩),.slice am ms.length nm] 113)) (.cells #[.int .u32 0,.int .u32 0,.int .u32 0,.int .i64 0] 126)
  simpa using this
 have HH0:=Lib.hid hh0
 have HBa:=Lib.hid hba
 by_cases hlt:x<ofs.length
 ·have HP:=Lib.hid (whereproc_any (h.below hba) (own_below hv hba) (ofs.getD x 0) (hof x hlt) (by rw [Hml.out];exact hof x hlt))
  rw [if_pos hlt] at HO
  rw [if_pos hlt,if_pos hlt,decide_eq_true hlt]
  have hz0:(0:Int)≤((ofs.getD x 0:Nat):Int):=by omega
  have hzd:¬ (((ofs.getD x 0:Nat):Int)<0):=by omega
  generalize ofs.getD x 0=k at *
  unfold prcV at HP ⊢
  generalize ps.getD k (0,0,0)=p at *
  obtain ⟨p0,p1,p2⟩:=p
  generalize ms.getD k 0=q at *
  clear h hv hp hh0 hba hlt
  go_enter Tryz.func96,Tryz.ntmps96
  go_wp2_with fail
  rw [← hWa];clear hWa
  refine HO.out.mono ?_
  rintro e w1 ⟨rfl,rfl⟩
  go_wp2_with fail
  refine HP.out.mono ?_
  rintro e w1 ⟨rfl,hb1⟩
  have HH1:=Lib.hid ((hb1.block (w.heap.size+1) (by omega)).trans HH0.out)
  have HB1:=Lib.hid (Bel.tr HBa.out hb1)
  have hsz:=size259 (.int .u32 p0) (.int .u32 p1) (.int .u32 p2) (.int .i64 q)
  clear hb1 b1 HP HO
  go_wp2_with (((with_reducible refine wpList_store_row (o:=⟨none,.store 126 (.tmp 4) (.tmp 16),_,_,_,none⟩) rfl 126 _ _ rfl (w.heap.size+1) #[.int .u32 p0,.int .u32 p1,.int .u32 p2,.int .i64 q] ?_ ?_ 126 _ HH1.out ?_ ?_ ?_ ?_);rfl;rfl;exact hsz;rfl;(simp [Value.oneCell'])))
  refine bodyPost_ret (v:=.tuple #[.agg #[.int .u32 p0,.int .u32 p1,.int .u32 p2,.int .i64 q],.bool true]) (results_cell_tmp Tryz.results96 _ _ (w.heap.size+1) 126 _ (0,0) _ rfl (setRow_heap _ _ _ _ _ _ HH1.out) Tryz.underlying126 rfl hsz _ rfl) rfl ⟨rfl,?_⟩
  exact below_setRow HB1.out _ (by omega) _
 ·rw [if_neg hlt] at HO
  rw [if_neg hlt,if_neg hlt,decide_eq_false hlt]
  unfold prcV
  clear h hv hp hh0 hba hlt
  go_enter Tryz.func96,Tryz.ntmps96
  go_wp2_with fail
  rw [← hWa];clear hWa
  refine HO.out.mono ?_
  rintro e w1 ⟨rfl,rfl⟩
  have hsz:=size259 (.int .u32 0) (.int .u32 0) (.int .u32 0) (.int .i64 0)
  clear b1 HO
  go_wp2_with (((with_reducible refine wpList_store_row (o:=⟨none,.store 126 (.tmp 4) (.tmp 13),_,_,_,none⟩) rfl 126 _ _ rfl (w.heap.size+1) #[.int .u32 0,.int .u32 0,.int .u32 0,.int .i64 0] ?_ ?_ 126 _ HH0.out ?_ ?_ ?_ ?_);rfl;rfl;exact hsz;rfl;(simp [Value.oneCell'])))
  refine bodyPost_ret (v:=.tuple #[.agg #[.int .u32 0,.int .u32 0,.int .u32 0,.int .i64 0],.bool false]) (results_cell_tmp Tryz.results96 _ _ (w.heap.size+1) 126 _ (0,0) _ rfl (setRow_heap _ _ _ _ _ _ HH0.out) Tryz.underlying126 rfl hsz _ rfl) rfl ⟨rfl,?_⟩
  exact below_setRow HBa.out _ (by omega) _
theorem prc_eq {m:Img} (hk:TakeOk m) (x:Nat):(ofTo m.code m.code.length).length=m.code.length∧(flowN m.code m.js).2.1.length=(psTo m.code m.code.length).length∧∀ y,y<(ofTo m.code m.code.length).length→(ofTo m.code m.code.length).getD y 0<(psTo m.code m.code.length).length:=by
 have hf:=findOk_nil hk.f
 refine ⟨hf.tl.ol,(flowN_spec hf hk.r).ml,fun y hy=>hf.tl.lt y (by rw [← hf.tl.ol];exact hy)⟩
theorem procOf_any (mb:Nat) (m:Img) (B:Nat) (w:World) (hk:TakeOk m) (h:ModAt w B mb m) (x:Nat) (hx:x<4294967296) :
 Calls Tryz.prog 54 #[.pointer (some ⟨mb,0,none⟩),.int .u32 x] w fun e w'=>e=.returned (.tuple #[prcV (prcN m x) (needN m x),.bool (decide (x<m.code.length))])∧Below w.heap.size w w':=by
 have hz39:=zero39
 obtain ⟨Wa,hWa⟩:∃ Wa,Wa=w.alloc (.cells #[.int .u32 0,.int .u32 0,.int .u32 0,.int .i64 0] 126):=⟨_,rfl⟩
 have hba:Below w.heap.size w Wa:=by rw [hWa];exact Bel.new _ _
 have hs0:Wa.heap.size=w.heap.size+1:=by rw [hWa];simp
 obtain ⟨h0,tb,b,vm,uc,vd,uj,ud,un,hm,ht,⟨c0,c1,c2,c3,c4,c5,c6,c7,c8,c9,c10,c11⟩,hi,⟨B',hB,hf⟩,hd,hv⟩:=h.below hba
 have HA:=Lib.hid (all_mod mb tb Wa hm)
 obtain ⟨vp,vo,vt,us,hA⟩:=hf
 obtain ⟨e1,e2,e3⟩:=prc_eq hk x
 have HP:=Lib.hid (whereof_any hA (own_downT hv (Nat.zero_le _)) e3 e2 x hx)
 rw [e1] at HP
 have hh0:Wa.heap[w.heap.size]?=some (.cells #[.int .u32 0,.int .u32 0,.int .u32 0,.int .i64 0] 126):=by rw [hWa];exact heap_alloc_new _ _
 have HH0:=Lib.hid hh0
 have HBa:=Lib.hid hba
 obtain ⟨am,nm,rfl,-⟩:=own_sl hv
 obtain ⟨p,hp⟩:∃ p,p=prcN m x:=⟨_,rfl⟩
 obtain ⟨q,hq⟩:∃ q,q=needN m x:=⟨_,rfl⟩
 rw [← hp,← hq]
 unfold prcN at hp
 unfold needN at hq
 rw [← hp,← hq] at HP
 unfold prcV at HP ⊢
 obtain ⟨p0,p1,p2⟩:=p
 simp only at HP
 generalize decide (x<m.code.length)=bb at *
 clear hi hd hv hA hp hq hh0 hba e1 e2 e3 h
 go_enter Tryz.func54,Tryz.ntmps54
 go_wp2_with fail
 rw [← hWa];clear hWa
 refine HA.out.mono ?_
 rintro e w1 ⟨rfl,rfl⟩
 go_wp2_with fail
 refine HP.out.mono ?_
 rintro e w1 ⟨rfl,hb1⟩
 have HH1:=Lib.hid ((hb1.block w.heap.size (by omega)).trans HH0.out)
 have HB1:=Lib.hid (Bel.tr HBa.out hb1)
 have hsz:=size259 (.int .u32 p0) (.int .u32 p1) (.int .u32 p2) (.int .i64 q)
 clear hb1 HP HA c0 c1 c2 c3 c4 c5 c6 c7 c8 c9 c10 c11
 go_wp2_with (((with_reducible refine wpList_store_row (o:=⟨none,.store 126 (.tmp 4) (.tmp 13),_,_,_,none⟩) rfl 126 _ _ rfl w.heap.size #[.int .u32 p0,.int .u32 p1,.int .u32 p2,.int .i64 q] ?_ ?_ 126 _ HH1.out ?_ ?_ ?_ ?_);rfl;rfl;exact hsz;rfl;(simp [Value.oneCell'])))
 refine bodyPost_ret (v:=.tuple #[.agg #[.int .u32 p0,.int .u32 p1,.int .u32 p2,.int .i64 q],.bool bb]) (results_cell_tmp Tryz.results54 _ _ w.heap.size 126 _ (0,0) _ rfl (setRow_heap _ _ _ _ _ _ HH1.out) Tryz.underlying126 rfl hsz _ rfl) rfl ⟨rfl,?_⟩
 exact below_setRow HB1.out _ (Nat.le_refl _) _
theorem none_any (mb:Nat) (m:Img) (B:Nat) (w:World) (hk:TakeOk m) (h:ModAt w B mb m) :
 Calls Tryz.prog 50 #[.pointer (some ⟨mb,0,none⟩)] w fun e w'=>e=.returned (.bool false)∧w=w':=by
 have HB:=Lib.hid (bitsOf_any mb m B w h)
 have hb8:=(moOk hk).k8
 have hne:((bitsI m:Int) == 0)=false:=by
  have:8≤bitsI m:=hb8
  simp;omega
 clear hb8
 generalize bitsI m=k at *
 clear h
 go_enter Tryz.func50,Tryz.ntmps50
 go_wp2_with fail
 refine HB.out.mono ?_
 rintro e w1 ⟨rfl,rfl⟩
 go_wp2_with fail
 go_ret
 exact ⟨rfl,rfl⟩
theorem pow_cases {k:Nat} (h1:8≤k) (h2:k≤16):k=8 ∨ k=9 ∨ k=10 ∨ k=11 ∨ k=12 ∨ k=13 ∨ k=14 ∨ k=15 ∨ k=16:=by omega
theorem top_any (mb:Nat) (m:Img) (B:Nat) (w:World) (hk:TakeOk m) (h:ModAt w B mb m) :
 Calls Tryz.prog 51 #[.pointer (some ⟨mb,0,none⟩)] w fun e w'=>e=.returned (.int .u32 ((moOf m).top:Nat))∧w=w':=by
 have HB:=Lib.hid (bitsOf_any mb m B w h)
 have hb8:8≤bitsI m:=(moOk hk).k8
 have hb16:bitsI m≤16:=(moOk hk).k16
 have htop:(moOf m).top=2 ^ bitsI m - 64:=rfl
 rw [htop]
 generalize bitsI m=k at *
 clear h htop
 rcases pow_cases hb8 hb16 with rfl|rfl|rfl|rfl|rfl|rfl|rfl|rfl|rfl
 all_goals
  clear hb8 hb16
  go_enter Tryz.func51,Tryz.ntmps51
  go_wp2_with fail
  refine HB.out.mono ?_
  rintro e w1 ⟨rfl,rfl⟩
  go_wp2_with fail
  go_ret
  exact ⟨rfl,rfl⟩
open Go.ChangeShapes Go.WideShapes Go.ChangeAt Go.RowKit Go.Joins Go.Deep
def stV (vo vd:Value) (s:St):Value:=.agg #[.int .u8 s.life,.int .u32 s.pc,.int .u32 s.sp,vo,vd,.int .u32 s.value,.int .u8 s.fault]
structure StAt (w:World) (vo vd:Value) (s:St):Prop where
 o:Words w vo s.ops
 d:Bytes w vd s.data
 sm:s.Small
theorem StAt.below {w w':World} {vo vd:Value} {s:St} (h:StAt w vo vd s) (hb:Below w.heap.size w w'):StAt w' vo vd s:=⟨h.o.below hb,h.d.below hb,h.sm⟩
section
variable {H:Type} {enc:TypeId×Value→H} {w:World} {base:Nat}
end
theorem markN_bd {n:Int} (h0:-1≤n) (h1:n≤64):∀ (ts:List Nat) (D:List Int) (P:List Nat) (D':List Int) (P':List Nat),Deps D→markN n ts D P=some (D',P')→Deps D'
 | [],D,P,D',P',hD,h=>by
  simp only [markN,Option.some.injEq,Prod.mk.injEq] at h
  rw [← h.1];exact hD
 | t :: ts,D,P,D',P',hD,h=>by
  unfold markN at h
  split at h
  ·cases h
  ·split at h
   ·exact markN_bd h0 h1 ts _ _ D' P' (hD.set t h0 h1) h
   ·exact markN_bd h0 h1 ts _ _ D' P' hD h
theorem walkN_bd (code:List (Nat×Nat)) (js:List Nat):∀ (f:Nat) (D:List Int) (P:List Nat) (m:Int),Deps D→0≤m→m≤64 →
 Deps (walkN code js f D P m).1∧0≤(walkN code js f D P m).2.1∧(walkN code js f D P m).2.1≤64
 | 0,D,P,m,hD,h0,h1=>⟨hD,h0,h1⟩
 | f+1,D,P,m,hD,h0,h1=>by
  unfold walkN
  by_cases c1:P=[]
  ·rw [if_pos c1];exact ⟨hD,h0,h1⟩
  rw [if_neg c1]
  by_cases c2:depFault (opAt code (minN P)) (D.getD (minN P) (-1))≠0
  ·rw [if_pos c2];exact ⟨hD,Int.le_refl _,show (0:Int)≤64 by decide⟩
  rw [if_neg c2]
  obtain ⟨f1,f2,-⟩:=depFault_zero (Classical.not_not.1 c2)
  have hd:=hD (minN P)
  generalize D.getD (minN P) (-1)=d at *
  have g0:-1≤d - takesOf (opAt code (minN P))+givesOf (opAt code (minN P)):=by omega
  generalize hn:d - (takesOf (opAt code (minN P)):Int)+(givesOf (opAt code (minN P)):Int)=n at *
  cases hm:markN n (nextN code js (minN P)) D (P.erase (minN P)) with
  | none=>exact ⟨hD,Int.le_refl _,show (0:Int)≤64 by decide⟩
  | some r =>
   obtain ⟨D',P'⟩:=r
   exact walkN_bd code js f D' P' _ (markN_bd g0 f2 _ _ _ _ _ hD hm) (by omega) (by omega)
theorem deps_nil:Deps []:=fun t=>by simp
theorem depthsN_bd (code:List (Nat×Nat)) (js:List Nat):∀ (qs:List Nat) (D ms:List Int),Deps D→(∀ x ∈ ms,0≤x∧x≤64) →
 Deps (depthsN code js qs D ms).1∧∀ x ∈ (depthsN code js qs D ms).2.1,0≤x∧x≤64
 | [],D,ms,hD,hm=>⟨hD,hm⟩
 | a :: qs,D,ms,hD,hm=>by
  unfold depthsN
  split
  ·exact ⟨deps_nil,fun x hx=>by cases hx⟩
  ·obtain ⟨w1,w2,w3⟩:=walkN_bd code js (code.length+1) (D.set a 0) [a] 0 (hD.set a (by decide) (by decide)) (Int.le_refl _) (by decide)
   refine depthsN_bd code js qs _ _ w1 fun x hx=>?_
   rcases List.mem_append.1 hx with hx|hx
   ·exact hm x hx
   ·rw [List.mem_singleton.1 hx];exact ⟨w2,w3⟩
theorem flowN_bd (code:List (Nat×Nat)) (js:List Nat):(∀ i,-1≤(flowN code js).1.getD i (-1)∧(flowN code js).1.getD i (-1)≤64)∧∀ i,0≤(flowN code js).2.1.getD i 0∧(flowN code js).2.1.getD i 0≤64:=by
 obtain ⟨h1,h2⟩:=depthsN_bd code js ((psTo code code.length).map (·.1)) (List.replicate code.length (-1)) [] (deps_none _) (fun x hx=>by cases hx)
 refine ⟨h1,fun i=>?_⟩
 have h3:∀ l:List Int,(∀ x ∈ l,0≤x∧x≤64)→0≤l.getD i 0∧l.getD i 0≤64:=fun l h=>by
  rw [List.getD_eq_getElem?_getD]
  cases hk:l[i]? with
  | none=>exact ⟨Int.le_refl _,show (0:Int)≤64 by decide⟩
  | some v=>exact h v (List.mem_of_getElem? hk)
 exact h3 _ h2
def Mo.fresh (m:Mo):List Nat:=m.im.data++List.replicate (2 ^ m.k - m.im.data.length) 0
def Mo.fst (m:Mo):St:=⟨0,0,m.top,[],m.fresh,0,0⟩
theorem fits_ops {m:Mo} (hm:m.Ok) {s:St} (h:m.fits s=true):s.ops.length≤64:=by
 have room:∀ n a,m.room n a=true→n≤64:=by
  intro n a hr
  obtain ⟨r0,r1,r2⟩:=room_iff.1 hr
  have:=(Mo.Ok.step hm r0).2.2.1
  omega
 unfold Mo.fits at h
 simp only [Bool.and_eq_true] at h
 obtain ⟨_,_,_,_,_,_,h⟩:=h
 by_cases c0:s.life=0
 ·rw [if_pos c0] at h
  simp only [Bool.and_eq_true,decide_eq_true_eq] at h
  omega
 ·rw [if_neg c0] at h
  by_cases c3:s.life=3
  ·rw [if_pos c3] at h
   simp only [Bool.and_eq_true,decide_eq_true_eq] at h
   exact room _ _ h.2.2
  ·rw [if_neg c3] at h
   by_cases c1:s.life=1
   ·rw [if_pos c1] at h
    exact room _ _ h
   ·rw [if_neg c1] at h
    by_cases c2:s.life=2
    ·rw [if_pos c2] at h
     simp only [Bool.and_eq_true,decide_eq_true_eq] at h
     obtain ⟨h1,h2,h3⟩:=h
     have hs:=Mo.Ok.step hm h1
     have:(0:Int)≤m.need s.pc:=by
      have:=hs.2.2.1
      omega
     omega
    ·rw [if_neg c2] at h
     cases h
theorem pow_le16 {m:Mo} (hm:m.Ok):256≤2 ^ m.k∧2 ^ m.k≤65536:=by
 have h:=Mo.Ok.sizes hm
 exact ⟨h.1,h.2.1⟩
theorem fresh_length {m:Mo} (hm:m.Ok):m.fresh.length=2 ^ m.k:=by
 have h:=hm.r
 unfold roomN at h
 unfold Mo.fresh
 rw [List.length_append,List.length_replicate]
 omega
theorem fits_fst {m:Mo} (hm:m.Ok):m.fits m.fst=true:=by
 have h1:=fresh_length hm
 obtain ⟨s1,s2,s3,s4,s5,s6⟩:=Mo.Ok.sizes hm
 have ht:m.top=2 ^ m.k - 64:=rfl
 unfold Mo.fits Mo.fst
 simp only [h1,ht]
 generalize 2 ^ m.k=K at *
 simp
 omega
theorem fst_small {m:Mo} (hm:m.Ok) (hd:∀ x ∈ m.im.data,x<256):m.fst.Small:=by
 have h2:=(pow_le16 hm).2
 refine ⟨by show (0:Nat)<256;decide,by show (0:Nat)<4294967296;decide,by show m.top<4294967296;unfold Mo.top;omega,(fun x hx=>by cases hx),?_,by show (0:Nat)<4294967296;decide,by show (0:Nat)<256;decide⟩
 intro x hx
 rcases List.mem_append.1 (show x ∈ m.im.data++List.replicate (2 ^ m.k - m.im.data.length) 0 from hx) with hx|hx
 ·exact hd x hx
 ·rw [(List.mem_replicate.1 hx).2];decide
structure MAt (w:World) (mb:Nat) (m:Img):Prop where
 k:TakeOk m
 a:∃ B,ModAt w B mb m
 x:∃ w0 xc xj xd xn,ImgAt w0 xc xj xd xn m
theorem MAt.below {w w':World} {mb:Nat} {m:Img} (h:MAt w mb m) (hb:Below w.heap.size w w'):MAt w' mb m:=by
 obtain ⟨B,hB⟩:=h.a
 exact ⟨h.k,⟨B,hB.below hb⟩,h.x⟩
theorem MAt.bits {w:World} {mb:Nat} {m:Img} (h:MAt w mb m) :
 Calls Tryz.prog 42 #[.pointer (some ⟨mb,0,none⟩)] w fun e w'=>e=.returned (.int .i64 (bitsI m))∧w=w':=by
 obtain ⟨B,hB⟩:=h.a
 exact bitsOf_any mb m B w hB
theorem MAt.image {w:World} {mb:Nat} {m:Img} (h:MAt w mb m) :
 Calls Tryz.prog 40 #[.pointer (some ⟨mb,0,none⟩)] w fun e w'=>∃ uc uj ud un,e=.returned (.agg #[uc,uj,ud,.int .u32 m.zero,.int .u32 m.stack,un])∧ImgOwn w' w.heap.size uc uj ud un m∧Below w.heap.size w w':=by
 obtain ⟨B,hB⟩:=h.a
 obtain ⟨w0,xc,xj,xd,xn,hx⟩:=h.x
 exact image_any mb m B w (small_of_check h.k.k) hB w0 xc xj xd xn hx
theorem MAt.empty {w:World} {mb:Nat} {m:Img} (h:MAt w mb m) :
 Calls Tryz.prog 50 #[.pointer (some ⟨mb,0,none⟩)] w fun e w'=>e=.returned (.bool false)∧w=w':=by
 obtain ⟨B,hB⟩:=h.a
 exact none_any mb m B w h.k hB
theorem MAt.top {w:World} {mb:Nat} {m:Img} (h:MAt w mb m) :
 Calls Tryz.prog 51 #[.pointer (some ⟨mb,0,none⟩)] w fun e w'=>e=.returned (.int .u32 ((moOf m).top:Nat))∧w=w':=by
 obtain ⟨B,hB⟩:=h.a
 exact top_any mb m B w h.k hB
theorem MAt.depth {w:World} {mb:Nat} {m:Img} (h:MAt w mb m) (i:Nat) (hi:i<4294967296) :
 Calls Tryz.prog 55 #[.pointer (some ⟨mb,0,none⟩),.int .u32 i] w fun e w'=>e=.returned (.int .i64 (depthAt (flowN m.code m.js).1 i))∧Below w.heap.size w w':=by
 obtain ⟨B,hB⟩:=h.a
 exact depthOf_any mb m B w hB i hi
theorem MAt.proc {w:World} {mb:Nat} {m:Img} (h:MAt w mb m) (i:Nat) (hi:i<4294967296) :
 Calls Tryz.prog 54 #[.pointer (some ⟨mb,0,none⟩),.int .u32 i] w fun e w'=>e=.returned (.tuple #[prcV (prcN m i) (needN m i),.bool (decide (i<m.code.length))])∧Below w.heap.size w w':=by
 obtain ⟨B,hB⟩:=h.a
 exact procOf_any mb m B w h.k hB i hi
theorem MAt.instr {w:World} {mb:Nat} {m:Img} (h:MAt w mb m) (i:Nat) (hi:i<4294967296) :
 Calls Tryz.prog 53 #[.pointer (some ⟨mb,0,none⟩),.int .u32 i] w fun e w'=>e=.returned (.tuple #[instrV m.code i,.bool (decide (i<m.code.length))])∧Below w.heap.size w w':=by
 obtain ⟨B,hB⟩:=h.a
 exact at_any mb m B w hB i hi (checkI_ok h.k.k).1
theorem mo_depth (m:Img) (i:Nat):(moOf m).depth i=depthAt (flowN m.code m.js).1 i:=by
 unfold Mo.depth depthAt
 split
 ·rfl
 ·rename_i h
  rw [List.getD_eq_getElem?_getD,List.getElem?_eq_none (show (flowN m.code m.js).1.length≤i from Nat.le_of_not_lt h)]
  rfl
theorem mo_need {m:Img} (hk:TakeOk m) (i:Nat):(moOf m).need i=needN m i:=by
 obtain ⟨e1,-,-⟩:=prc_eq hk i
 unfold Mo.need needN
 show (if i<(ofTo m.code m.code.length).length then _ else _)=_
 rw [e1]
 rfl
theorem depth_bd (m:Img) (i:Nat):-1≤depthAt (flowN m.code m.js).1 i∧depthAt (flowN m.code m.js).1 i≤64:=(flowN_bd m.code m.js).1 i
theorem need_bd (m:Img) (i:Nat):0≤needN m i∧needN m i≤64:=by
 unfold needN
 split
 ·exact (flowN_bd m.code m.js).2 _
 ·exact ⟨Int.le_refl _,by decide⟩
theorem room_any' {w:World} {mb:Nat} {m:Img} (h:MAt w mb m) (n i:Nat) (hn:n≤140737488355328) (hi:i<4294967296) :
 Calls Tryz.prog 52 #[.pointer (some ⟨mb,0,none⟩),.int .i64 n,.int .u32 i] w fun e w'=>e=.returned (.bool ((moOf m).room n i))∧Below w.heap.size w w':=by
 have HD:=Lib.hid (h.depth i hi)
 have HP:=Lib.hid (fun W (hW:Below w.heap.size w W)=>(h.below hW).proc i hi)
 have hd:=depth_bd m i
 have hq:=need_bd m i
 have Hr:=Lib.hid (show (moOf m).room n i=(decide (0≤depthAt (flowN m.code m.js).1 i) && (decide (depthAt (flowN m.code m.js).1 i≤n) && decide ((n:Int) - depthAt (flowN m.code m.js).1 i+needN m i≤64))) from by
  unfold Mo.room;rw [mo_depth,mo_need h.k])
 generalize depthAt (flowN m.code m.js).1 i=d at *
 generalize needN m i=q at *
 generalize decide (i<m.code.length)=bb at *
 unfold prcV at HP
 generalize prcN m i=p at *
 obtain ⟨p0,p1,p2⟩:=p
 simp only at HP
 clear h
 go_enter Tryz.func52,Tryz.ntmps52
 go_wp2_with fail
 refine HD.out.mono ?_
 rintro e w1 ⟨rfl,hb1⟩
 have HP1:=Lib.hid (HP.out w1 hb1)
 have HB1:=Lib.hid hb1
 clear hb1 HP HD
 go_wp2_with fail
 refine HP1.out.mono ?_
 rintro e w2 ⟨rfl,hb2⟩
 have HB2:=Lib.hid (Bel.al (Bel.tr HB1.out hb2) (.cells #[.int .u32 p0,.int .u32 p1,.int .u32 p2,.int .i64 q] 126))
 clear hb2 HP1
 by_cases h0:0≤d
 ·by_cases h1:d≤(n:Int)
  all_goals
   go_wp2_with fail
   all_goals
    go_ret
    exact ⟨ret_boolE (by rw [Hr.out,Bool.eq_iff_iff];simp only [Bool.and_eq_true,decide_eq_true_eq,Bool.false_eq_true,false_iff,true_iff];omega),HB2.out⟩
 ·go_wp2_with fail
  go_ret
  exact ⟨ret_boolE (by rw [Hr.out,Bool.eq_iff_iff];simp only [Bool.and_eq_true,decide_eq_true_eq,Bool.false_eq_true,false_iff,true_iff];omega),HB2.out⟩
theorem fld28_4 (a1 a2 a3 a4:Option Addr) (l1 n1 l2 n2 l3 n3 l4 n4:Nat) (z t:Int) (w:World):(Instr.field 28 (.agg #[.slice a1 l1 n1,.slice a2 l2 n2,.slice a3 l3 n3,.int .u32 z,.int .u32 t,.slice a4 l4 n4]) 4).run Tryz.prog w=.ok (.int .u32 t) w:=by kernel_rfl
theorem mfollows:Tryz.prog.follows .mixedOrders=true:=by kernel_rfl
structure StB (w:World) (q:Nat) (vo vd:Value) (s:St):Prop where
 c0:w.cell? ⟨q,0,none⟩=some (.int .u8 s.life)
 c1:w.cell? ⟨q,1,none⟩=some (.int .u32 s.pc)
 c2:w.cell? ⟨q,2,none⟩=some (.int .u32 s.sp)
 c3:w.cell? ⟨q,3,none⟩=some vo
 c4:w.cell? ⟨q,4,none⟩=some vd
 c5:w.cell? ⟨q,5,none⟩=some (.int .u32 s.value)
 c6:w.cell? ⟨q,6,none⟩=some (.int .u8 s.fault)
theorem StB.below {w w':World} {q:Nat} {vo vd:Value} {s:St} (h:StB w q vo vd s) (hb:Below w.heap.size w w'):StB w' q vo vd s:=by
 have hl:=World.block_lt_of_cell? _ _ h.c0
 exact ⟨(hb.cell (p:=⟨q,0,none⟩) hl).trans h.c0,(hb.cell (p:=⟨q,1,none⟩) hl).trans h.c1,(hb.cell (p:=⟨q,2,none⟩) hl).trans h.c2,(hb.cell (p:=⟨q,3,none⟩) hl).trans h.c3,
  (hb.cell (p:=⟨q,4,none⟩) hl).trans h.c4,(hb.cell (p:=⟨q,5,none⟩) hl).trans h.c5,(hb.cell (p:=⟨q,6,none⟩) hl).trans h.c6⟩
theorem StB.row {w:World} {q:Nat} {vo vd:Value} {s:St} (h:w.heap[q]?=some (.cells #[.int .u8 s.life,.int .u32 s.pc,.int .u32 s.sp,vo,vd,.int .u32 s.value,.int .u8 s.fault] 51 (0,0))):StB w q vo vd s :=
 ⟨cell_of_row w q 0 _ _ _ h,cell_of_row w q 1 _ _ _ h,cell_of_row w q 2 _ _ _ h,cell_of_row w q 3 _ _ _ h,cell_of_row w q 4 _ _ _ h,cell_of_row w q 5 _ _ _ h,cell_of_row w q 6 _ _ _ h⟩
section
variable {m:Mo} {s:St}
theorem fits_no1 (h:s.data.length≠2 ^ m.k):m.fits s=false:=by unfold Mo.fits;simp [h]
theorem fits_no2 (h:s.sp % 4≠0):m.fits s=false:=by unfold Mo.fits;simp [h]
theorem fits_no3 (h:s.sp<2 ^ m.k - m.im.stack):m.fits s=false:=by unfold Mo.fits;simp [show ¬ 2 ^ m.k - m.im.stack≤s.sp by omega]
theorem fits_no4 (h:m.top<s.sp):m.fits s=false:=by unfold Mo.fits;simp [show ¬ s.sp≤m.top by omega]
theorem fits_no5 (h:s.life≠2) (h2:s.value≠0):m.fits s=false:=by
 unfold Mo.fits;simp only [show decide (s.life≠2→s.value=0)=false from decide_eq_false (fun f=>h2 (f h)),Bool.false_and,Bool.and_false]
theorem fits_no6 (h:s.life≠3) (h2:s.fault≠0):m.fits s=false:=by
 unfold Mo.fits;simp only [show decide (s.life≠3→s.fault=0)=false from decide_eq_false (fun f=>h2 (f h)),Bool.false_and,Bool.and_false]
theorem fits_go (h1:s.data.length=2 ^ m.k) (h2:s.sp % 4=0) (h3:2 ^ m.k - m.im.stack≤s.sp) (h4:s.sp≤m.top) (h5:s.life≠2→s.value=0) (h6:s.life≠3→s.fault=0) :
 m.fits s=(if s.life=0 then decide (s.pc=0) && (decide (s.sp=m.top) && decide (s.ops.length=0))
 else if s.life=3 then decide (1≤s.fault) && (decide (s.fault≤8) && m.room s.ops.length s.pc)
 else if s.life=1 then m.room s.ops.length s.pc
 else if s.life=2 then decide (0≤m.depth s.pc) && (decide (opAt m.im.code s.pc=4) && decide ((s.ops.length:Int)+m.need s.pc≤64))
 else false):=by
 unfold Mo.fits
 rw [decide_eq_true h1,decide_eq_true h2,decide_eq_true h3,decide_eq_true h4,decide_eq_true h5,decide_eq_true h6]
 simp only [Bool.true_and]
end
theorem quiet_at {W0:World} {f:FuncId} {args:Array Value} {v:Value} (H:∀ W,Below W0.heap.size W0 W→Calls Tryz.prog f args W fun e w'=>e=.returned v∧W=w') :
 ∀ T:BelW W0,Calls Tryz.prog f args T.val fun e w'=>e=.returned v∧∃ S:BelW W0,w'=S.val:=fun T=>(H T.val T.2).mono fun e w' h=>⟨h.1,T,h.2.symm⟩
theorem fits_any {w:World} {mb:Nat} {m:Img} (h:MAt w mb m) {vo vd:Value} {s:St} (hs:StAt w vo vd s) (hn:s.ops.length≤140737488355328) :
 Calls Tryz.prog 21 #[.pointer (some ⟨mb,0,none⟩),stV vo vd s] w fun e w'=>e=.returned (.bool ((moOf m).fits s))∧Below w.heap.size w w':=by
 have hmx:=mfollows
 have hf28:=fld28_4
 obtain ⟨W0,hW0⟩:∃ W0,W0=w.alloc (.cells #[.int .u8 s.life,.int .u32 s.pc,.int .u32 s.sp,vo,vd,.int .u32 s.value,.int .u8 s.fault] 51):=⟨_,rfl⟩
 have hb0:Below w.heap.size w W0:=by rw [hW0];exact Bel.new _ _
 have HS0:=Lib.hid (StB.row (s:=s) (vo:=vo) (vd:=vd) (by rw [hW0];exact heap_alloc_new w _):StB W0 w.heap.size vo vd s)
 have HM:=Lib.hid (h.below hb0)
 have hok:=moOk h.k
 obtain ⟨s1,s2,s3,s4,s5,s6⟩:=Mo.Ok.sizes hok
 have hk8:8≤bitsI m:=hok.k8
 have hk16:bitsI m≤16:=hok.k16
 have HB0:=Lib.hid hb0
 obtain ⟨ao,co,rfl,-,hno,hmo,-⟩:=hs.o.1
 obtain ⟨ad,cd,rfl,-,hnd,hmd,-⟩:=hs.d.1
 have hpc:=hs.sm.p
 have hne:Nonempty (BelW W0):=⟨⟨W0,Below.refl _ _⟩⟩
 have Q140:=Lib.hid (quiet_at fun W hW=>(HM.out.below hW).empty)
 have Q112:=Lib.hid (quiet_at fun W hW=>(HM.out.below hW).bits)
 have Q141:=Lib.hid (quiet_at fun W hW=>(HM.out.below hW).top)
 have T2:=BelW.cell HS0.out.c2
 have T4:=BelW.cell HS0.out.c4
 have hK:∃ K:Nat,K=2 ^ bitsI m:=⟨_,rfl⟩
 obtain ⟨K,hK⟩:=hK
 have HK:=Lib.hid hK
 have s1':256≤K:=by rw [hK];exact s1
 have s2':K≤65536:=by rw [hK];exact s2
 have s3':m.stack≤K:=by rw [hK];exact s3
 have hp2:(2:Int) ^ bitsI m=(K:Int):=by rw [hK];simp
 have hwK:IntKind.i64.wrap (K:Int)=(K:Int):=IntWalk.i64_in _ (by omega)
 have hwK2:IntKind.u32.wrap (K:Int)=(K:Int):=by rw [IntKind.wrap_u32];omega
 have htop:(moOf m).top=K - 64:=by rw [hK];rfl
 have Htop:=Lib.hid htop
 have hkk:(moOf m).k=bitsI m:=rfl
 have F1:=Lib.hid (show s.data.length≠K→(moOf m).fits s=false from fun h=>fits_no1 (by rw [hkk,← HK.out];exact h))
 have F2:=Lib.hid (show s.sp % 4≠0→(moOf m).fits s=false from fits_no2)
 have F3:=Lib.hid (show s.sp<K - m.stack→(moOf m).fits s=false from fun h=>fits_no3 (by rw [hkk,← HK.out];exact h))
 have F4:=Lib.hid (show K - 64<s.sp→(moOf m).fits s=false from fun h=>fits_no4 (by rw [Htop.out];exact h))
 have F5:=Lib.hid (show s.life≠2→s.value≠0→(moOf m).fits s=false from fits_no5)
 have F6:=Lib.hid (show s.life≠3→s.fault≠0→(moOf m).fits s=false from fits_no6)
 have FG:=Lib.hid (show s.data.length=K→s.sp % 4=0→K - m.stack≤s.sp→s.sp≤K - 64→(s.life≠2→s.value=0)→(s.life≠3→s.fault=0)→(moOf m).fits s=_ from fun h1 h2 h3 h4 h5 h6=>fits_go (by rw [hkk,← HK.out];exact h1) h2 (by rw [hkk,← HK.out];exact h3) (by rw [Htop.out];exact h4) h5 h6)
 rw [htop] at Q141 FG
 have HR:=Lib.hid (fun W (hW:Below W0.heap.size W0 W)=>room_any' (HM.out.below hW) s.ops.length s.pc hn hpc)
 have HIm:=Lib.hid (fun W (hW:Below W0.heap.size W0 W)=>(HM.out.below hW).image)
 have HTo:=Lib.hid (fun W (hW:Below W0.heap.size W0 W)=>(HM.out.below hW).top)
 rw [htop] at HTo
 have HBi:=Lib.hid (fun W (hW:Below W0.heap.size W0 W)=>(HM.out.below hW).bits)
 have HNo:=Lib.hid (fun W (hW:Below W0.heap.size W0 W)=>(HM.out.below hW).empty)
 have HKp:=Lib.hid (fun (W W':World) (hb:Below W.heap.size W W') (hS:((W.cell? ⟨w.heap.size,0,none⟩=some (.int .u8 s.life)∧W.cell? ⟨w.heap.size,2,none⟩=some (.int .u32 s.sp)∧W.cell? ⟨w.heap.size,4,none⟩=some (.slice ad s.data.length cd))∧Below W0.heap.size W0 W)) =>
  (⟨⟨(HS0.out.below (Bel.tr hS.2 hb)).c0,(HS0.out.below (Bel.tr hS.2 hb)).c2,(HS0.out.below (Bel.tr hS.2 hb)).c4⟩,Bel.tr hS.2 hb⟩:((W'.cell? ⟨w.heap.size,0,none⟩=some (.int .u8 s.life)∧W'.cell? ⟨w.heap.size,2,none⟩=some (.int .u32 s.sp)∧W'.cell? ⟨w.heap.size,4,none⟩=some (.slice ad s.data.length cd))∧Below W0.heap.size W0 W')))
 generalize hfit:(moOf m).fits s=ff at *
 have Hsm:=Lib.hid hs.sm
 have hLl:s.data.length≤9223372036854775807:=by unfold maxLen at hmd;omega
 have hsp:=hs.sm.s
 generalize bitsI m=k at *
 clear hfit hs h hb0 hok s1 s2 s3 s4 s5 s6 hkk htop hK
 unfold stV
 by_cases c1:s.data.length=K
 ·have C1:=Lib.hid c1
  have hd0:(((s.data.length:Nat):Int) == (K:Int))=true:=by simp;omega
  have hd1:(((s.data.length:Nat):Int) != (K:Int))=false:=by simp;omega
  clear c1
  by_cases c2:s.sp % 4=0
  ·have C2:=Lib.hid c2
   have hd2:(((s.sp:Nat):Int).tmod 4 == 0)=true:=by rw [Int.tmod_eq_emod_of_nonneg (by omega)];simp;omega
   have hd3:(((s.sp:Nat):Int).tmod 4 != 0)=false:=by rw [Int.tmod_eq_emod_of_nonneg (by omega)];simp;omega
   have hd4:(((s.sp:Nat):Int) % 4 == 0)=true:=by simp;omega
   have hd5:(((s.sp:Nat):Int) % 4 != 0)=false:=by simp;omega
   clear c2
   obtain ⟨Y,hY⟩:∃ Y,Y=K - m.stack:=⟨_,rfl⟩
   obtain ⟨Z,hZ⟩:∃ Z,Z=K - 64:=⟨_,rfl⟩
   have hw3:IntKind.u32.wrap ((K:Int) - (m.stack:Int))=(Y:Int):=by rw [IntKind.wrap_u32];omega
   rw [← hY] at F3 FG
   rw [← hZ] at F4 FG HTo
   have H00:=Lib.hid (⟨⟨HS0.out.c0,HS0.out.c2,HS0.out.c4⟩,(Below.refl _ _).drew⟩:(W0.drew.cell? ⟨w.heap.size,0,none⟩=some (.int .u8 s.life)∧W0.drew.cell? ⟨w.heap.size,2,none⟩=some (.int .u32 s.sp)∧W0.drew.cell? ⟨w.heap.size,4,none⟩=some (.slice ad s.data.length cd))∧Below W0.heap.size W0 W0.drew)
   by_cases c3:s.sp<Y
   ·have hff:ff=false:=F3.out c3
    subst hff
    have hc3:((s.sp:Nat):Int)<(Y:Int):=by omega
    clear hY hZ
    go_enter Tryz.func21,Tryz.ntmps21
    go_wp2_with fail
    rw [← hW0]
    clear hW0
    refine wp_region_held_drew (S:=((fun w'=>(w'.cell? ⟨w.heap.size,0,none⟩=some (.int .u8 s.life)∧w'.cell? ⟨w.heap.size,2,none⟩=some (.int .u32 s.sp)∧w'.cell? ⟨w.heap.size,4,none⟩=some (.slice ad s.data.length cd))∧Below W0.heap.size W0 w'))) (by kernel_rfl) H00.out (fun hHeld=>?_)
    refine tk 0 hHeld ?_
    refine rd 1 _ fun K hK=>?_
    go_simp
    refine (HNo.out _ hHeld.2).mono ?_
    rintro e wN ⟨rfl,rfl⟩
    refine hK.out _ _ hHeld (fun _=>?_)
    clear hK K
    try simp only [Act.put,aT,aZ,aS]
    refine tk 2 hHeld ?_
    refine tk 3 hHeld ?_
    refine tk 4 hHeld ?_
    refine tk 5 hHeld ?_
    refine tk 6 hHeld ?_
    refine rd 7 _ fun K hK=>?_
    go_simp
    refine (HBi.out _ hHeld.2).mono ?_
    rintro e wN ⟨rfl,rfl⟩
    refine hK.out _ _ hHeld (fun _=>?_)
    clear hK K
    try simp only [Act.put,aT,aZ,aS]
    refine tk 8 hHeld ?_
    refine tk 9 hHeld ?_
    refine tk 10 hHeld ?_
    refine tk 11 hHeld ?_
    refine tk 12 hHeld ?_
    refine tk 13 hHeld ?_
    refine tk 14 hHeld ?_
    refine tk 15 hHeld ?_
    refine tk 16 hHeld ?_
    refine tk 17 hHeld ?_
    refine tk 18 hHeld ?_
    refine tk 19 hHeld ?_
    refine tk 20 hHeld ?_
    refine tk 23 hHeld ?_
    refine rd 21 _ fun K hK=>?_
    go_simp
    refine (HBi.out _ hHeld.2).mono ?_
    rintro e wN ⟨rfl,rfl⟩
    refine hK.out _ _ hHeld (fun _=>?_)
    clear hK K
    try simp only [Act.put,aT,aZ,aS]
    refine tk 22 hHeld ?_
    refine rd 24 _ fun K hK=>?_
    go_simp
    refine (HIm.out _ hHeld.2).mono ?_
    rintro e wI ⟨uc,uj,ud,un,rfl,hio,hbI⟩
    obtain ⟨a1,n1,rfl,-⟩:=own_sl hio.c
    obtain ⟨a2,n2,rfl,-⟩:=own_sl hio.j
    obtain ⟨a3,n3,rfl,-⟩:=own_sl hio.d
    obtain ⟨a4,n4,rfl,-⟩:=own_sl hio.n
    have hHeld:=HKp.out _ _ hbI hHeld
    refine hK.out _ _ hHeld (fun _=>?_)
    clear hK K
    try simp only [Act.put,aT,aZ,aS]
    refine tk 25 hHeld ?_
    refine tk 26 hHeld ?_
    refine tk 27 hHeld ?_
    refine tk 28 hHeld ?_
    refine tk 29 hHeld ?_
    refine wpAnyH_take (i:=30) (v:=undef) (by simp only [List.getElem?_toArray,List.getElem?_cons_succ,List.getElem?_cons_zero,Option.some.injEq];rfl) (by kernel_rfl) (by kernel_rfl) (by kernel_rfl) (by exact fun _ _ _ h=>h) (Or.inr ⟨by rfl,rfl⟩) hHeld ?_
    try simp only [Act.put,aT,aZ,aS]
    refine wpAnyH_take (i:=31) (v:=undef) (by simp only [List.getElem?_toArray,List.getElem?_cons_succ,List.getElem?_cons_zero,Option.some.injEq];rfl) (by kernel_rfl) (by kernel_rfl) (by kernel_rfl) (by exact fun _ _ _ h=>h) (Or.inr ⟨by rfl,rfl⟩) hHeld ?_
    try simp only [Act.put,aT,aZ,aS]
    refine wpAnyH_take (i:=32) (v:=undef) (by simp only [List.getElem?_toArray,List.getElem?_cons_succ,List.getElem?_cons_zero,Option.some.injEq];rfl) (by kernel_rfl) (by kernel_rfl) (by kernel_rfl) (by exact fun _ _ _ h=>h) (Or.inr ⟨by rfl,rfl⟩) hHeld ?_
    try simp only [Act.put,aT,aZ,aS]
    refine wpAnyH_take (i:=33) (v:=undef) (by simp only [List.getElem?_toArray,List.getElem?_cons_succ,List.getElem?_cons_zero,Option.some.injEq];rfl) (by kernel_rfl) (by kernel_rfl) (by kernel_rfl) (by exact fun _ _ _ h=>h) (Or.inr ⟨by rfl,rfl⟩) hHeld ?_
    try simp only [Act.put,aT,aZ,aS]
    refine wpAnyH_take (i:=34) (v:=undef) (by simp only [List.getElem?_toArray,List.getElem?_cons_succ,List.getElem?_cons_zero,Option.some.injEq];rfl) (by kernel_rfl) (by kernel_rfl) (by kernel_rfl) (by exact fun _ _ _ h=>h) (Or.inr ⟨by rfl,rfl⟩) hHeld ?_
    try simp only [Act.put,aT,aZ,aS]
    refine tk 35 hHeld ?_
    refine wpAnyH_done (by kernel_rfl) ?_ _
    have HB2:=Lib.hid (Bel.tr HB0.out hHeld.2)
    go_wp2_with fail
    go_ret
    exact ⟨rfl,HB2.out⟩
   ·by_cases c4:Z<s.sp
    ·have hff:ff=false:=F4.out c4
     subst hff
     have hc3:¬ ((s.sp:Nat):Int)<(Y:Int):=by omega
     have hc4:(Z:Int)<((s.sp:Nat):Int):=by omega
     clear hY hZ
     go_enter Tryz.func21,Tryz.ntmps21
     go_wp2_with fail
     rw [← hW0]
     clear hW0
     first|(go_region_held3 (fun w'=>(w'.cell? ⟨w.heap.size,0,none⟩=some (.int .u8 s.life)∧w'.cell? ⟨w.heap.size,2,none⟩=some (.int .u32 s.sp)∧w'.cell? ⟨w.heap.size,4,none⟩=some (.slice ad s.data.length cd))∧Below W0.heap.size W0 w')
     (first|assumption|exact H00.out|exact HKp.out _ _ hbI (by assumption))
     (first
      | (go_at_call 50;refine (HNo.out _ ?_).mono ?_;exact (by assumption:(_∧_)∧Below W0.heap.size W0 _).2;rintro e wN ⟨rfl,rfl⟩)
      | (go_at_call 42;refine (HBi.out _ ?_).mono ?_;exact (by assumption:(_∧_)∧Below W0.heap.size W0 _).2;rintro e wN ⟨rfl,rfl⟩)
      | (go_at_call 51;refine (HTo.out _ ?_).mono ?_;exact (by assumption:(_∧_)∧Below W0.heap.size W0 _).2;rintro e wN ⟨rfl,rfl⟩)
      | (go_at_call 40; refine (HIm.out _ ?_).mono ?_; exact (by assumption : (_ ∧ _) ∧ Below W0.heap.size W0 _).2; rintro e wI ⟨uc, uj, ud, un, rfl, hio, hbI⟩; obtain ⟨a1, n1, rfl, -⟩ := own_sl hio.c; obtain ⟨a2, n2, rfl, -⟩ := own_sl hio.j; obtain ⟨a3, n3, rfl, -⟩ := own_sl hio.d; obtain ⟨a4, n4, rfl, -⟩ := own_sl hio.n))) | fail "held"
     all_goals
      have HB2:=Lib.hid (Bel.tr HB0.out (by assumption:(_∧_)∧Below W0.heap.size W0 _).2)
      go_wp2_with fail
      go_ret
      exact ⟨rfl,HB2.out⟩
    ·have hc3:¬ ((s.sp:Nat):Int)<(Y:Int):=by omega
     have hc4:¬ (Z:Int)<((s.sp:Nat):Int):=by omega
     have FG2:=Lib.hid (FG.out C1.out C2.out (by omega) (by omega))
     clear hY hZ
     go_enter Tryz.func21,Tryz.ntmps21
     go_wp2_with fail
     rw [← hW0]
     clear hW0
     first|(go_region_held3 (fun w'=>(w'.cell? ⟨w.heap.size,0,none⟩=some (.int .u8 s.life)∧w'.cell? ⟨w.heap.size,2,none⟩=some (.int .u32 s.sp)∧w'.cell? ⟨w.heap.size,4,none⟩=some (.slice ad s.data.length cd))∧Below W0.heap.size W0 w')
     (first|assumption|exact H00.out|exact HKp.out _ _ hbI (by assumption))
     (first
      | (go_at_call 50;refine (HNo.out _ ?_).mono ?_;exact (by assumption:(_∧_)∧Below W0.heap.size W0 _).2;rintro e wN ⟨rfl,rfl⟩)
      | (go_at_call 42;refine (HBi.out _ ?_).mono ?_;exact (by assumption:(_∧_)∧Below W0.heap.size W0 _).2;rintro e wN ⟨rfl,rfl⟩)
      | (go_at_call 51;refine (HTo.out _ ?_).mono ?_;exact (by assumption:(_∧_)∧Below W0.heap.size W0 _).2;rintro e wN ⟨rfl,rfl⟩)
      | (go_at_call 40; refine (HIm.out _ ?_).mono ?_; exact (by assumption : (_ ∧ _) ∧ Below W0.heap.size W0 _).2; rintro e wI ⟨uc, uj, ud, un, rfl, hio, hbI⟩; obtain ⟨a1, n1, rfl, -⟩ := own_sl hio.c; obtain ⟨a2, n2, rfl, -⟩ := own_sl hio.j; obtain ⟨a3, n3, rfl, -⟩ := own_sl hio.d; obtain ⟨a4, n4, rfl, -⟩ := own_sl hio.n))) | fail "held"
     have HB1:=Lib.hid (by assumption:(_∧_)∧Below W0.heap.size W0 _).2
     have HBw:=Lib.hid (Bel.tr HB0.out HB1.out)
     obtain ⟨d0,d1,d2,d3,d4,d5,d6⟩:=HS0.out.below HB1.out
     have HR1:=Lib.hid (HR.out _ HB1.out)
     rename_i wE
     have QT:=Lib.hid (quiet_at fun W hW=>HTo.out W (Bel.tr HB1.out hW))
     clear HR HIm HBi HNo Q140 Q112 Q141 T2 T4 H00 hc3 hc4 HTo
     have hne1:Nonempty (BelW wI):=⟨⟨wI,Below.refl _ _⟩⟩
     have HAt:=Lib.hid (fun W (hW:Below wI.heap.size wI W)=>(HM.out.below (Bel.tr HB1.out hW)).instr s.pc hpc)
     have HPr:=Lib.hid (fun W (hW:Below wI.heap.size wI W)=>(HM.out.below (Bel.tr HB1.out hW)).proc s.pc hpc)
     have HDe:=Lib.hid (fun W (hW:Below wI.heap.size wI W)=>(HM.out.below (Bel.tr HB1.out hW)).depth s.pc hpc)
     generalize s.life=life at *
     by_cases v0:s.value=0
     ·have hv1:(((s.value:Nat):Int) == 0)=true:=by simp;omega
      have hv2:(((s.value:Nat):Int) != 0)=false:=by simp;omega
      by_cases f0:s.fault=0
      ·have hf1:(((s.fault:Nat):Int) == 0)=true:=by simp;omega
       have hf2:(((s.fault:Nat):Int) != 0)=false:=by simp;omega
       have HG:=Lib.hid (FG2.out (fun _=>v0) (fun _=>f0))
       have hg1:¬ (1:Int)≤((s.fault:Nat):Int):=by omega
       rcases (by omega:life=0 ∨ life=1 ∨ life=2 ∨ life=3 ∨ 4≤life) with rfl|rfl|rfl|rfl|hl
       ·have T1:=BelW.cell d1
        have T2:=BelW.cell d2
        have T3:=BelW.cell d3
        by_cases p0:s.pc=0
        ·have hp1:(((s.pc:Nat):Int) == 0)=true:=by simp;omega
         by_cases z0:s.sp=Z
         ·have hz1:(((s.sp:Nat):Int) == (Z:Int))=true:=by simp;omega
          by_cases o0:s.ops.length=0
          ·have ho1:(((s.ops.length:Nat):Int) == 0)=true:=by rw [o0];rfl
           go_wp2_with fail
           refine wp_region_quietB hmx (by kernel_rfl) ?_
           repeat (go_big_quiet_step (first|(go_at_call 51;exact QT.out _)))
           refine wpQuiet_nil ?_
           rintro w5 ⟨⟨w6,hb6⟩,rfl⟩
           have HB6:=Lib.hid (Bel.tr HBw.out hb6)
           clear hb6
           go_wp2_with fail
           go_ret
           exact ⟨ret_boolE (HG.out.trans (by simp [*])).symm,HB6.out⟩
          ·have ho1:(((s.ops.length:Nat):Int) == 0)=false:=int_beq_ne o0
           go_wp2_with fail
           refine wp_region_quietB hmx (by kernel_rfl) ?_
           repeat (go_big_quiet_step (first|(go_at_call 51;exact QT.out _)))
           refine wpQuiet_nil ?_
           rintro w5 ⟨⟨w6,hb6⟩,rfl⟩
           have HB6:=Lib.hid (Bel.tr HBw.out hb6)
           clear hb6
           go_wp2_with fail
           go_ret
           exact ⟨ret_boolE (HG.out.trans (by simp [*])).symm,HB6.out⟩
         ·have hz1:=int_beq_ne z0
          go_wp2_with fail
          refine wp_region_quietB hmx (by kernel_rfl) ?_
          repeat (go_big_quiet_step (first|(go_at_call 51;exact QT.out _)))
          refine wpQuiet_nil ?_
          rintro w5 ⟨⟨w6,hb6⟩,rfl⟩
          have HB6:=Lib.hid (Bel.tr HBw.out hb6)
          clear hb6
          go_wp2_with fail
          go_ret
          exact ⟨ret_boolE (HG.out.trans (by simp [*])).symm,HB6.out⟩
        ·have hp1:(((s.pc:Nat):Int) == 0)=false:=int_beq_ne p0
         go_wp2_with fail
         refine wp_region_quietB hmx (by kernel_rfl) ?_
         repeat (go_big_quiet_step (first|(go_at_call 51;exact QT.out _)))
         refine wpQuiet_nil ?_
         rintro w5 ⟨⟨w6,hb6⟩,rfl⟩
         have HB6:=Lib.hid (Bel.tr HBw.out hb6)
         clear hb6
         go_wp2_with fail
         go_ret
         exact ⟨ret_boolE (HG.out.trans (by simp [*])).symm,HB6.out⟩
       ·go_wp2_with fail
        refine HR1.out.mono ?_
        rintro e w5 ⟨rfl,hb5⟩
        go_wp2_with fail
        go_ret
        exact ⟨ret_boolE (HG.out.trans (by simp)).symm,Bel.tr HBw.out hb5⟩
       ·have HA1:=Lib.hid (HAt.out wI (Below.refl _ _))
        unfold instrV at HA1
        unfold prcV at HPr
        go_wp2_with fail
        refine HA1.out.mono ?_
        rintro e w5 ⟨rfl,hb5⟩
        have HP1:=Lib.hid (fun o=>HPr.out (w5.alloc o) (Bel.al hb5 o))
        obtain ⟨w5a,hw5a⟩:∃ x,x=w5.alloc (.cells #[.int .u8 (opAt m.code s.pc),.int .u32 (argAt m.code s.pc)] 106):=⟨_,rfl⟩
        have HB5:=Lib.hid (show Below wI.heap.size wI w5a from by rw [hw5a];exact Bel.al hb5 _)
        have H5:=Lib.hid (show w5a.heap[w5.heap.size]?=some (.cells #[.int .u8 (opAt m.code s.pc),.int .u32 (argAt m.code s.pc)] 106 (0,0)) from by rw [hw5a];exact heap_alloc_new _ _)
        obtain ⟨e1,e2,e3,e4,e5,e6,e7⟩:=HS0.out.below (Bel.tr HB1.out hb5)
        have hlt5:w.heap.size<w5.heap.size:=World.block_lt_of_cell? _ _ e1
        have HP5:=Lib.hid (HPr.out w5a HB5.out)
        clear hb5 HP1
        go_wp2_with fail
        rw [← hw5a]
        clear hw5a
        refine HP5.out.mono ?_
        rintro e w6 ⟨rfl,hb6⟩
        obtain ⟨w7,hw7⟩:∃ x,x=w6.alloc (.cells #[.int .u32 (prcN m s.pc).1,.int .u32 (prcN m s.pc).2.1,.int .u32 (prcN m s.pc).2.2,.int .i64 (needN m s.pc)] 126):=⟨_,rfl⟩
        have HB67:=Lib.hid (show Below w5a.heap.size w5a w7 from by rw [hw7];exact Bel.al hb6 _)
        have HB7:=Lib.hid (Bel.tr HB5.out HB67.out)
        have H7:=Lib.hid (show w7.heap[w6.heap.size]?=some (.cells #[.int .u32 (prcN m s.pc).1,.int .u32 (prcN m s.pc).2.1,.int .u32 (prcN m s.pc).2.2,.int .i64 (needN m s.pc)] 126 (0,0)) from by rw [hw7];exact heap_alloc_new _ _)
        clear e1 e2 e3 e4 e5 e6 e7
        obtain ⟨e1,e2,e3,e4,e5,e6,e7⟩:=HS0.out.below (Bel.tr HB1.out (Bel.tr HB5.out hb6))
        have hlt6:w.heap.size<w6.heap.size:=World.block_lt_of_cell? _ _ e1
        clear hb6
        have HD7:=Lib.hid (HDe.out w7 HB7.out)
        have Hbd:=depth_bd m s.pc
        have Hnd:=need_bd m s.pc
        have HG2:=Lib.hid (show ff=(decide (0≤depthAt (flowN m.code m.js).1 s.pc) && (decide (opAt m.code s.pc=4) && decide ((s.ops.length:Int)+needN m s.pc≤64))) from HG.out.trans (by rw [if_neg (by decide),if_neg (by decide),if_neg (by decide),if_pos (by first|trivial|rfl),mo_depth,mo_need HM.out.k];rfl))
        have h50:=World.block_lt_of_cell? _ _ (cell_of_row w5a w5.heap.size 0 _ _ _ H5.out)
        go_wp2_with fail
        rw [← hw7]
        clear hw7
        refine HD7.out.mono ?_
        rintro e w8 ⟨rfl,hb8⟩
        have HB8:=Lib.hid (Bel.tr HB7.out hb8)
        have c50:=((Bel.tr HB67.out hb8).cell (p:=⟨w5.heap.size,0,none⟩) h50).trans (cell_of_row w5a w5.heap.size 0 _ _ _ H5.out)
        have c73:=(hb8.cell (p:=⟨w6.heap.size,3,none⟩) (World.block_lt_of_cell? _ _ (cell_of_row w7 w6.heap.size 3 _ _ _ H7.out))).trans (cell_of_row w7 w6.heap.size 3 _ _ _ H7.out)
        clear e1 e2 e3 e4 e5 e6 e7 hb8
        obtain ⟨e1,e2,e3,e4,e5,e6,e7⟩:=HS0.out.below (Bel.tr HB1.out HB8.out)
        generalize depthAt (flowN m.code m.js).1 s.pc=dd at *
        generalize needN m s.pc=nd at *
        generalize opAt m.code s.pc=oa at *
        by_cases q1:0≤dd
        ·by_cases q2:oa=4
         ·have q3:((oa:Nat):Int) == 4:=by simp;omega
          have hwn:IntKind.i64.wrap ((s.ops.length:Int)+nd)=(s.ops.length:Int)+nd:=IntWalk.i64_in _ (by omega)
          go_wp2_with fail
          go_ret
          exact ⟨ret_boolE (HG2.out.trans (by simp [q1,q2])).symm,Bel.tr HBw.out HB8.out⟩
         ·have q3:(((oa:Nat):Int) == 4)=false:=by simp;omega
          go_wp2_with fail
          go_ret
          exact ⟨ret_boolE (HG2.out.trans (by simp [q1,q2])).symm,Bel.tr HBw.out HB8.out⟩
        ·go_wp2_with fail
         go_ret
         exact ⟨ret_boolE (HG2.out.trans (by simp;omega)).symm,Bel.tr HBw.out HB8.out⟩
       ·go_wp2_with fail
        go_ret
        exact ⟨ret_boolE (HG.out.trans (by simp [f0])).symm,HBw.out⟩
       ·have hl0:(((life:Nat):Int) == 0)=false:=by simp;omega
        have hl1:(((life:Nat):Int) == 1)=false:=by simp;omega
        have hl2:(((life:Nat):Int) == 2)=false:=by simp;omega
        have hl3:(((life:Nat):Int) == 3)=false:=by simp;omega
        have hl4:(((life:Nat):Int) != 2)=true:=by simp;omega
        have hl5:(((life:Nat):Int) != 3)=true:=by simp;omega
        go_wp2_with fail
        go_ret
        exact ⟨ret_boolE (HG.out.trans (by simp [show life≠0 by omega,show life≠1 by omega,show life≠2 by omega,show life≠3 by omega])).symm,HBw.out⟩
      ·have hf1:(((s.fault:Nat):Int) == 0)=false:=by simp;omega
       have hf2:(((s.fault:Nat):Int) != 0)=true:=by simp;omega
       rcases (by omega:life=3 ∨ life≠3) with rfl|hl
       ·have HG:=Lib.hid (FG2.out (fun _=>v0) (fun h=>absurd rfl h))
        have hg1:(1:Int)≤((s.fault:Nat):Int):=by omega
        by_cases f8:s.fault≤8
        ·have hg2:((s.fault:Nat):Int)≤8:=by omega
         go_wp2_with fail
         refine HR1.out.mono ?_
         rintro e w5 ⟨rfl,hb5⟩
         go_wp2_with fail
         go_ret
         exact ⟨ret_boolE (HG.out.trans (by simp [f8,show 1≤s.fault by omega])).symm,Bel.tr HBw.out hb5⟩
        ·have hg2:¬ ((s.fault:Nat):Int)≤8:=by omega
         go_wp2_with fail
         go_ret
         exact ⟨ret_boolE (HG.out.trans (by simp [f8])).symm,HBw.out⟩
       ·have hl2:(((life:Nat):Int) == 3)=false:=by simp;omega
        have hl3:(((life:Nat):Int) != 3)=true:=by simp;omega
        rcases (by omega:life=2 ∨ life≠2) with rfl|hq
        ·go_wp2_with fail
         go_ret
         exact ⟨ret_boolE (F6.out hl f0).symm,HBw.out⟩
        ·have hq2:(((life:Nat):Int) == 2)=false:=by simp;omega
         have hq3:(((life:Nat):Int) != 2)=true:=by simp;omega
         go_wp2_with fail
         go_ret
         exact ⟨ret_boolE (F6.out hl f0).symm,HBw.out⟩
     ·have hv1:(((s.value:Nat):Int) == 0)=false:=by simp;omega
      have hv2:(((s.value:Nat):Int) != 0)=true:=by simp;omega
      rcases (by omega:life=2 ∨ life≠2) with rfl|hl
      ·by_cases f0:s.fault=0
       ·have hf1:(((s.fault:Nat):Int) == 0)=true:=by simp;omega
        have hf2:(((s.fault:Nat):Int) != 0)=false:=by simp;omega
        have HG:=Lib.hid (FG2.out (fun h=>absurd rfl h) (fun _=>f0))
        have HA1:=Lib.hid (HAt.out wI (Below.refl _ _))
        unfold instrV at HA1
        unfold prcV at HPr
        go_wp2_with fail
        refine HA1.out.mono ?_
        rintro e w5 ⟨rfl,hb5⟩
        have HP1:=Lib.hid (fun o=>HPr.out (w5.alloc o) (Bel.al hb5 o))
        obtain ⟨w5a,hw5a⟩:∃ x,x=w5.alloc (.cells #[.int .u8 (opAt m.code s.pc),.int .u32 (argAt m.code s.pc)] 106):=⟨_,rfl⟩
        have HB5:=Lib.hid (show Below wI.heap.size wI w5a from by rw [hw5a];exact Bel.al hb5 _)
        have H5:=Lib.hid (show w5a.heap[w5.heap.size]?=some (.cells #[.int .u8 (opAt m.code s.pc),.int .u32 (argAt m.code s.pc)] 106 (0,0)) from by rw [hw5a];exact heap_alloc_new _ _)
        obtain ⟨e1,e2,e3,e4,e5,e6,e7⟩:=HS0.out.below (Bel.tr HB1.out hb5)
        have hlt5:w.heap.size<w5.heap.size:=World.block_lt_of_cell? _ _ e1
        have HP5:=Lib.hid (HPr.out w5a HB5.out)
        clear hb5 HP1
        go_wp2_with fail
        rw [← hw5a]
        clear hw5a
        refine HP5.out.mono ?_
        rintro e w6 ⟨rfl,hb6⟩
        obtain ⟨w7,hw7⟩:∃ x,x=w6.alloc (.cells #[.int .u32 (prcN m s.pc).1,.int .u32 (prcN m s.pc).2.1,.int .u32 (prcN m s.pc).2.2,.int .i64 (needN m s.pc)] 126):=⟨_,rfl⟩
        have HB67:=Lib.hid (show Below w5a.heap.size w5a w7 from by rw [hw7];exact Bel.al hb6 _)
        have HB7:=Lib.hid (Bel.tr HB5.out HB67.out)
        have H7:=Lib.hid (show w7.heap[w6.heap.size]?=some (.cells #[.int .u32 (prcN m s.pc).1,.int .u32 (prcN m s.pc).2.1,.int .u32 (prcN m s.pc).2.2,.int .i64 (needN m s.pc)] 126 (0,0)) from by rw [hw7];exact heap_alloc_new _ _)
        clear e1 e2 e3 e4 e5 e6 e7
        obtain ⟨e1,e2,e3,e4,e5,e6,e7⟩:=HS0.out.below (Bel.tr HB1.out (Bel.tr HB5.out hb6))
        have hlt6:w.heap.size<w6.heap.size:=World.block_lt_of_cell? _ _ e1
        clear hb6
        have HD7:=Lib.hid (HDe.out w7 HB7.out)
        have Hbd:=depth_bd m s.pc
        have Hnd:=need_bd m s.pc
        have HG2:=Lib.hid (show ff=(decide (0≤depthAt (flowN m.code m.js).1 s.pc) && (decide (opAt m.code s.pc=4) && decide ((s.ops.length:Int)+needN m s.pc≤64))) from HG.out.trans (by rw [if_neg (by decide),if_neg (by decide),if_neg (by decide),if_pos (by first|trivial|rfl),mo_depth,mo_need HM.out.k];rfl))
        have h50:=World.block_lt_of_cell? _ _ (cell_of_row w5a w5.heap.size 0 _ _ _ H5.out)
        go_wp2_with fail
        rw [← hw7]
        clear hw7
        refine HD7.out.mono ?_
        rintro e w8 ⟨rfl,hb8⟩
        have HB8:=Lib.hid (Bel.tr HB7.out hb8)
        have c50:=((Bel.tr HB67.out hb8).cell (p:=⟨w5.heap.size,0,none⟩) h50).trans (cell_of_row w5a w5.heap.size 0 _ _ _ H5.out)
        have c73:=(hb8.cell (p:=⟨w6.heap.size,3,none⟩) (World.block_lt_of_cell? _ _ (cell_of_row w7 w6.heap.size 3 _ _ _ H7.out))).trans (cell_of_row w7 w6.heap.size 3 _ _ _ H7.out)
        clear e1 e2 e3 e4 e5 e6 e7 hb8
        obtain ⟨e1,e2,e3,e4,e5,e6,e7⟩:=HS0.out.below (Bel.tr HB1.out HB8.out)
        generalize depthAt (flowN m.code m.js).1 s.pc=dd at *
        generalize needN m s.pc=nd at *
        generalize opAt m.code s.pc=oa at *
        by_cases q1:0≤dd
        ·by_cases q2:oa=4
         ·have q3:((oa:Nat):Int) == 4:=by simp;omega
          have hwn:IntKind.i64.wrap ((s.ops.length:Int)+nd)=(s.ops.length:Int)+nd:=IntWalk.i64_in _ (by omega)
          go_wp2_with fail
          go_ret
          exact ⟨ret_boolE (HG2.out.trans (by simp [q1,q2])).symm,Bel.tr HBw.out HB8.out⟩
         ·have q3:(((oa:Nat):Int) == 4)=false:=by simp;omega
          go_wp2_with fail
          go_ret
          exact ⟨ret_boolE (HG2.out.trans (by simp [q1,q2])).symm,Bel.tr HBw.out HB8.out⟩
        ·go_wp2_with fail
         go_ret
         exact ⟨ret_boolE (HG2.out.trans (by simp;omega)).symm,Bel.tr HBw.out HB8.out⟩
       ·have hf1:(((s.fault:Nat):Int) == 0)=false:=by simp;omega
        have hf2:(((s.fault:Nat):Int) != 0)=true:=by simp;omega
        go_wp2_with fail
        go_ret
        exact ⟨ret_boolE (F6.out (by decide) f0).symm,HBw.out⟩
      ·have hl2:(((life:Nat):Int) == 2)=false:=by simp;omega
       have hl3:(((life:Nat):Int) != 2)=true:=by simp;omega
       go_wp2_with fail
       go_ret
       exact ⟨ret_boolE (F5.out hl v0).symm,HBw.out⟩
  ·have hd2:(((s.sp:Nat):Int).tmod 4 == 0)=false:=by rw [Int.tmod_eq_emod_of_nonneg (by omega)];simp;omega
   have hd3:(((s.sp:Nat):Int).tmod 4 != 0)=true:=by rw [Int.tmod_eq_emod_of_nonneg (by omega)];simp;omega
   have hd4:(((s.sp:Nat):Int) % 4 == 0)=false:=by simp;omega
   have hd5:(((s.sp:Nat):Int) % 4 != 0)=true:=by simp;omega
   have hff:ff=false:=F2.out c2
   subst hff
   go_enter Tryz.func21,Tryz.ntmps21
   go_wp2_with fail
   rw [← hW0]
   clear hW0
   refine wp_region_quietB hmx (by kernel_rfl) ?_
   repeat (go_big_quiet_step (first|(go_at_call 50;exact Q140.out _)|(go_at_call 42;exact Q112.out _)))
   refine wpQuiet_nil ?_
   rintro w1 ⟨⟨w2,hb2⟩,rfl⟩
   have HB2:=Lib.hid (Bel.tr HB0.out hb2)
   clear hb2
   go_wp2_with fail
   go_ret
   exact ⟨rfl,HB2.out⟩
 ·have hd0:(((s.data.length:Nat):Int) == (K:Int))=false:=by simp;omega
  have hd1:(((s.data.length:Nat):Int) != (K:Int))=true:=by simp;omega
  have hff:ff=false:=F1.out c1
  subst hff
  go_enter Tryz.func21,Tryz.ntmps21
  go_wp2_with fail
  rw [← hW0]
  clear hW0
  refine wp_region_quietB hmx (by kernel_rfl) ?_
  repeat (go_big_quiet_step (first|(go_at_call 50;exact Q140.out _)|(go_at_call 42;exact Q112.out _)))
  refine wpQuiet_nil ?_
  rintro w1 ⟨⟨w2,hb2⟩,rfl⟩
  have HB2:=Lib.hid (Bel.tr HB0.out hb2)
  clear hb2
  go_wp2_with fail
  go_ret
  exact ⟨rfl,HB2.out⟩
theorem zeroS51 (w:World):(zeroValue 51).run Tryz.prog w=.ok (.agg #[.int .u8 0,.int .u32 0,.int .u32 0,.slice none 0 0,.slice none 0 0,.int .u32 0,.int .u8 0]) w:=by kernel_rfl
theorem run_b51 (x:Int) (a:Option Addr) (n c:Nat) (w:World):(Instr.build 51 #[(2,.int .u32 x),(4,.slice a n c)]).run Tryz.prog w=.ok (.agg #[.int .u8 0,.int .u32 0,.int .u32 x,.slice none 0 0,.slice a n c,.int .u32 0,.int .u8 0]) w:=by kernel_rfl
theorem info51:(Tryz.prog.info? 51).map (·.size)=some 7:=by kernel_rfl
theorem size51 (a b c d e f g:Value):(Tryz.prog.info? 51).map (·.size)=some (#[a,b,c,d,e,f,g]:Array Value).size:=info51
theorem made_bytes (n:Nat):(madeCells (Value.int .u8 0).cells (n * 1)).toList=encN .u8 (List.replicate n 0):=by
 unfold madeCells encN
 apply List.ext_getElem
 ·simp
 ·intro i h1 h2
  simp [Value.cells,Nat.mod_one]
theorem fresh_splice {m:Mo} (h:m.im.data.length≤2 ^ m.k):splice (encN .u8 (List.replicate (2 ^ m.k) 0)) 0 (encN .u8 m.im.data)=encN .u8 m.fresh:=by
 unfold splice Mo.fresh
 rw [List.take_zero,List.nil_append,Nat.zero_add,encN_length,encN_append]
 congr 1
 simp only [encN,← List.map_drop,List.drop_replicate]
def FreshPost (m:Img) (w:World) (e:Ending) (w':World):Prop :=
 ∃ vd,e=.returned (.tuple #[stV (.slice none 0 0) vd (moOf m).fst,.int .i64 0])∧w'.ownsRow w.heap.size 5 1 vd (2 ^ bitsI m) (encN .u8 (moOf m).fresh)∧Below w.heap.size w w'
theorem fld28_2 (a1 a2 a3 a4:Option Addr) (l1 n1 l2 n2 l3 n3 l4 n4:Nat) (z t:Int) (w:World):(Instr.field 28 (.agg #[.slice a1 l1 n1,.slice a2 l2 n2,.slice a3 l3 n3,.int .u32 z,.int .u32 t,.slice a4 l4 n4]) 2).run Tryz.prog w=.ok (.slice a3 l3 n3) w:=by kernel_rfl
theorem fresh_any {w:World} {mb:Nat} {m:Img} (h:MAt w mb m):Calls Tryz.prog 38 #[.pointer (some ⟨mb,0,none⟩)] w (FreshPost m w):=by
 have hz51:=zeroS51
 have hf28:=fld28_2
 have hb51:=run_b51
 obtain ⟨i5,hi5,x0,x1,x2⟩:=info_parts inf5
 have hsz5:(Tryz.prog.info? 5).map (·.size)=some 1:=by kernel_rfl
 obtain ⟨Wa,hWa⟩:∃ Wa,Wa=w.alloc (.cells #[.int .u8 0,.int .u32 0,.int .u32 0,.slice none 0 0,.slice none 0 0,.int .u32 0,.int .u8 0] 51):=⟨_,rfl⟩
 have hba:Below w.heap.size w Wa:=by rw [hWa];exact Bel.new _ _
 have HHa:Hid (Wa.heap[w.heap.size]?=some (.cells #[.int .u8 0,.int .u32 0,.int .u32 0,.slice none 0 0,.slice none 0 0,.int .u32 0,.int .u8 0] 51 (0,0))):=Lib.hid (by rw [hWa];exact heap_alloc_new w _)
 have hsa:w.heap.size<Wa.heap.size:=by rw [hWa];simp
 have hok:=moOk h.k
 obtain ⟨s1,s2,s3,s4,s5,s6⟩:=Mo.Ok.sizes hok
 have hroom:m.data.length≤2 ^ bitsI m:=by
  have:=hok.r
  unfold roomN at this
  have h2:(moOf m).k=bitsI m:=rfl
  have h3:(moOf m).im=m:=rfl
  rw [h2,h3] at this
  omega
 have HSp:=Lib.hid (fresh_splice (m:=moOf m) hroom)
 have hk8:8≤bitsI m:=hok.k8
 have hk16:bitsI m≤16:=hok.k16
 have HNo:=Lib.hid (h.below hba).empty
 have HBi:=Lib.hid (h.below hba).bits
 have HIm:=Lib.hid (fun W (hW:Below Wa.heap.size Wa W)=>((h.below hba).below hW).image)
 have HTo:=Lib.hid (fun W (hW:Below Wa.heap.size Wa W)=>((h.below hba).below hW).top)
 have HBa:=Lib.hid hba
 have htop:(moOf m).top=2 ^ bitsI m - 64:=rfl
 have Hst:=Lib.hid (show (moOf m).fst=⟨0,0,(moOf m).top,[],(moOf m).fresh,0,0⟩ from rfl)
 unfold FreshPost
 rw [Hst.out]
 unfold stV
 simp only
 rw [htop] at HTo ⊢
 have hmk:(moOf m).k=bitsI m:=rfl
 rw [hmk] at HSp s1 s2 s3 s6
 obtain ⟨K,hK⟩:∃ K:Nat,K=2 ^ bitsI m:=⟨_,rfl⟩
 have hp2:(2:Int) ^ bitsI m=(K:Int):=by rw [hK];simp
 have t1:256≤K:=by rw [hK];exact s1
 have t2:K≤65536:=by rw [hK];exact s2
 have hroomK:m.data.length≤K:=by rw [hK];exact hroom
 clear s1 s2 hroom
 rw [← hK] at HSp HTo ⊢
 have hwK:IntKind.i64.wrap (K:Int)=(K:Int):=IntWalk.i64_in _ (by omega)
 have him:(moOf m).im=m:=rfl
 rw [him] at HSp
 generalize (moOf m).fresh=fr at *
 generalize bitsI m=k at *
 clear h hba hok hK hmk him htop Hst s3 s4 s5
 go_enter Tryz.func38,Tryz.ntmps38
 go_wp2_with fail
 rw [← hWa]
 clear hWa
 refine HNo.out.mono ?_
 rintro e w1 ⟨rfl,rfl⟩
 go_wp2_with fail
 refine HBi.out.mono ?_
 rintro e w1 ⟨rfl,rfl⟩
 go_wp2_with (at_make;refine wpList_make_full _ rfl _ _ 24 rfl Wa.heap.size 5 i5 (.int .u8 0) 1 Tryz.underlying24 hi5 x0 x1 .i64 .i64 _ _ K rfl rfl rfl rfl (by rw [x2];omega) (by unfold maxLen;omega) (Nat.le_refl _) ?_;intro w9 ho9 hg9;rw [made_bytes] at ho9;have hb9:=below_of_none hg9;have HO9:=Lib.hid ho9;have HB9:=Lib.hid hb9;clear ho9 hg9 hb9)
 have HI9:=Lib.hid (HIm.out w9 HB9.out)
 refine HI9.out.mono ?_
 rintro e w2 ⟨uc,uj,ud,un,rfl,hio,hb2⟩
 obtain ⟨a1,n1,rfl,-⟩:=own_sl hio.c
 obtain ⟨a2,n2,rfl,-⟩:=own_sl hio.j
 obtain ⟨a3,n3,rfl,-,-,hpd⟩:=own_sl hio.d
 obtain ⟨a4,n4,rfl,-⟩:=own_sl hio.n
 obtain ⟨cur,q1,q2,q3,q4,q5,q6⟩:=own_cur (own_below HO9.out hb2)
 have hcur:cur=encN .u8 (List.replicate K 0):=by rw [← q5,List.take_of_length_le (by omega)]
 have HB2:=Lib.hid (Bel.tr HB9.out hb2)
 have HQ:=Lib.hid q1
 have HTo2:=Lib.hid (HTo.out)
 have hone:=encN_one .u8 m.data
 have hmin:(encN .u8 m.data).length=Nat.min m.data.length K:=by rw [encN_length];exact (Nat.min_eq_left (by omega)).symm
 have hle:0+(encN .u8 m.data).length≤cur.length:=by rw [encN_length,q2];omega
 have HSrc:=Lib.hid (show 0<(encN .u8 m.data).length→∃ ad,a3=some ad∧∀ j v,(encN .u8 m.data)[j]?=some v→w2.cell? (ad.add j)=some v from fun h0=>by
  rw [encN_length] at h0
  obtain ⟨g,rfl,hg,hc⟩:=hpd h0
  exact ⟨_,rfl,fun j v hj=>by
   rw [Addr.add_mid,Nat.zero_add,hc j (List.getElem?_eq_some_iff.1 hj).1];exact hj⟩)
 clear hio hb2 HI9 q1 HIm hpd
 go_wp2_with (((with_reducible refine wpList_copy_splice (o:=⟨some 16,.call { callee:=.builtin .copy,args:=#[.tmp 12,.tmp 15],argTypes:=#[24,24] },_,_,_,none⟩) rfl (.tmp 12) (.tmp 15) 24 24 rfl 5 Tryz.underlying24 hsz5 (some ⟨Wa.heap.size,0,none⟩) a3 K K m.data.length n3 ?_ ?_ Wa.heap.size 0 cur 5 HQ.out (encN .u8 m.data) hmin (fun h0=>⟨rfl,HSrc.out h0⟩) hle hone Wa.heap.size Wa HB2.out (Nat.le_refl _) ?_);rfl;rfl;intro w3 hg3 hb3))
 have HT3:=Lib.hid (HTo2.out w3 hb3)
 refine HT3.out.mono ?_
 rintro e w4 ⟨rfl,rfl⟩
 have HB3:=Lib.hid hb3
 have HG3:=Lib.hid (show w3.ownsRow Wa.heap.size 5 1 (.slice (some ⟨Wa.heap.size,0,none⟩) K K) K (encN .u8 fr) from by
  have h1:=hg3.out
  rw [hcur,HSp.out] at h1
  have hl:(encN .u8 fr).length=K:=by
   rw [← HSp.out];unfold splice
   simp only [List.length_append,List.length_take,List.length_drop,encN_length,List.length_replicate];omega
  exact ⟨by rw [hl];omega,.inr ⟨_,K,_,rfl,Nat.le_refl _,h1,Nat.le_refl _,by unfold maxLen;omega,by simp;omega,by simp [List.take_of_length_le (show (encN .u8 fr).length≤K by omega)]⟩⟩)
 have HH3:=Lib.hid ((HB3.out.block w.heap.size hsa).trans HHa.out)
 have hsz:=size51 (.int .u8 0) (.int .u32 0) (.int .u32 ((K - 64:Nat):Int)) (.slice none 0 0) (.slice (some ⟨Wa.heap.size,0,none⟩) K K) (.int .u32 0) (.int .u8 0)
 clear hb3 hg3 HT3
 go_wp2_with (((with_reducible refine wpList_store_row (o:=⟨none,.store 51 (.tmp 2) (.tmp 20),_,_,_,none⟩) rfl 51 _ _ rfl w.heap.size #[.int .u8 0,.int .u32 0,.int .u32 ((K - 64:Nat):Int),.slice none 0 0,.slice (some ⟨Wa.heap.size,0,none⟩) K K,.int .u32 0,.int .u8 0] ?_ ?_ 51 _ HH3.out ?_ ?_ ?_ ?_);rfl;rfl;exact hsz;rfl;(simp [Value.oneCell'])))
 refine bodyPost_ret (v:=.tuple #[.agg #[.int .u8 0,.int .u32 0,.int .u32 ((K - 64:Nat):Int),.slice none 0 0,.slice (some ⟨Wa.heap.size,0,none⟩) K K,.int .u32 0,.int .u8 0],.int .i64 0]) (results_cell_tmp Tryz.results38 _ _ w.heap.size 51 _ (0,0) _ rfl (setRow_heap _ _ _ _ _ _ HH3.out) Tryz.underlying51 rfl hsz _ rfl) rfl ⟨_,rfl,?_,?_⟩
 ·exact own_downT (own_setRow HG3.out hsa) (Nat.le_of_lt hsa)
 ·exact below_setRow (Bel.tr HBa.out HB3.out) _ (Nat.le_refl _) _
theorem writeTo_plain (d:List Nat) (a:Nat) (b:List Nat) (hq:a % d.length+b.length≤d.length):∀ k,k≤b.length→writeTo d a b k=d.take (a % d.length)++b.take k++d.drop (a % d.length+k)
 | 0,_=>by simp [writeTo]
 | k+1,hk=>by
  have ih:=writeTo_plain d a b hq k (by omega)
  have hl:=writeTo_length d a b k
  have e:(a+k) % d.length=a % d.length+k:=by
   rw [Nat.add_mod,Nat.mod_eq_of_lt (show a % d.length+k % d.length<d.length by
    have:=Nat.mod_le k d.length;omega),Nat.mod_eq_of_lt (show k<d.length by omega)]
  rw [writeTo,putN,hl,e,ih]
  generalize a % d.length=q at *
  have h1:(d.take q++b.take k).length=q+k:=by
   rw [List.length_append,List.length_take,List.length_take];omega
  rw [List.set_append_right _ _ (by omega),h1,Nat.sub_self,List.drop_eq_getElem_cons (show q+k<d.length by omega),List.set_cons_zero,List.take_succ_eq_append_getElem (by omega),List.getD_eq_getElem?_getD,List.getElem?_eq_getElem (by omega),Option.getD_some]
  simp only [List.append_assoc,List.singleton_append,Nat.add_assoc]
theorem mspl_take {α:Type} (l m:List α) {q N:Nat} (h:q+m.length≤N) (hN:N≤l.length):(l.take q++m++l.drop (q+m.length)).take N=(l.take N).take q++m++(l.take N).drop (q+m.length):=by
 have h1:(l.take q++m).length=q+m.length:=by rw [List.length_append,List.length_take];omega
 rw [List.take_append,h1,List.take_of_length_le (by omega),List.take_take,Nat.min_eq_left (by omega),List.drop_take]
theorem copyB {W:World} {g q N c:Nat} {cur:Array Value} (hg:W.heap[g]?=some (.cells cur 5 (0,0))) {v:Value} {b:List Nat} (hb:Bytes W v b) (hfit:q+b.length≤N) (hN:N≤cur.size) :
 (Builtin.copy_ #[24,24] 3 #[.slice (some ⟨g,q,none⟩) (N - q) (c - q),v]).run Tryz.prog W=.ok (goInt b.length) (W.setRow g (cur.toList.take q++encN .u8 b++cur.toList.drop (q+(encN .u8 b).length)).toArray):=by
 obtain ⟨va,vc,rfl,hvn,hvm,hva,hvp⟩:=hb.opened
 have hsz5:(Tryz.prog.info? 5).map (fun x=>x.size)=some 1:=by kernel_rfl
 cases va with
 | none =>
  have h0:=hva rfl
  have hb0:b=[]:=List.eq_nil_of_length_eq_zero (by omega)
  subst hb0
  subst h0
  rw [show encN .u8 []=[] from rfl,List.append_nil,show q+([]:List Value).length=q from rfl,List.take_append_drop,Array.toArray_toList,setRow_self W g cur 5 (0,0) hg]
  exact run_copy_nil Tryz.prog W 24 24 3 5 ⟨g,q,none⟩ _ _ Tryz.underlying24 (by kernel_rfl)
 | some ad =>
  have:=run_copy_row (P:=Tryz.prog) W 24 24 3 5 g q (N - q) (c - q) ad b.length vc cur 5 (encN .u8 b) Tryz.underlying24 hsz5 hg (by rw [encN_length];exact (Nat.min_eq_left (by omega)).symm) (fun j x hj=>by
   have hjl:j<b.length:=by rw [← encN_length .u8 b];exact (List.getElem?_eq_some_iff.1 hj).1
   obtain ⟨bb,off,e,hbb,hcc⟩:=hvp (by omega)
   cases e
   rw [Addr.add_mid,hcc j hjl,← encN_at .u8 b j hjl]
   exact hj) (by rw [encN_length];omega) (encN_one .u8 b)
  rw [encN_length] at this ⊢
  exact this
section
variable {w:World} {p g c N:Nat} {vt:Value} {d:List Nat} {logs:Bool} {tou:List (Nat×Bool)}
theorem write1_any (h:MemAt w p g c N vt d logs tou) {k q q1 q2 n cb b o:Nat} (hk:k<n) (hq:q<N) {x:Int} (h1:w.cell? ⟨q1,0,none⟩=some (.pointer (some ⟨p,0,none⟩))) (h2:w.cell? ⟨q2,0,none⟩=some (.slice (some ⟨b,o,none⟩) n cb)) (h3:w.cell? ⟨b,o+k,none⟩=some (.int .u8 x)) :
 Calls Tryz.prog 180 #[.int .i64 k,.int .u32 q,.pointer (some ⟨q2,0,none⟩),.pointer (some ⟨q1,0,none⟩)] w fun e w'=>e=.returned (.tuple #[])∧w'=w.drew.setCell ⟨g,q,none⟩ (.int .u8 x):=by
 have hmx:Tryz.prog.follows .mixedOrders=true:=by kernel_rfl
 obtain ⟨⟨c0,c1,c2⟩,-⟩:=cells379 h.hp
 have hg:=h.cell hq
 have hf:=h.froz q
 have hki:(k:Int)<(n:Int):=by omega
 have hqi:(q:Int)<(N:Int):=by omega
 clear h
 go_enter Tryz.func180,Tryz.ntmps180
 go_wp2_with fail
 refine wp_region_still_tail 10 hmx (by kernel_rfl) ?_
 simp only [List.take_succ_cons,List.take_zero,List.drop_succ_cons,List.drop_zero]
 repeat still_step
 refine wpStill_nil ?_
 change wpList _ _ _ _ _ w.drew
 go_wp2
 go_end0
 exact ⟨rfl,rfl⟩
theorem MemAt.copied (h:MemAt w p g c N vt d logs tou) {q:Nat} {v:Value} {b:List Nat} (hb:Bytes w v b) (hfit:q+b.length≤N) :
 ∃ W',(Builtin.copy_ #[24,24] 3 #[.slice (some ⟨g,q,none⟩) (N - q) (c - q),v]).run Tryz.prog w=.ok (goInt b.length) W'∧MemAt W' p g c N vt (d.take q++b++d.drop (q+b.length)) logs tou∧Fr w W' (fun x=>x=g) (fun x=>x=g):=by
 rcases h.row.2 with ⟨e1,-⟩|⟨g',cap,cur,e1,hg0,hg',hn,hm,hs,ht⟩
 ·cases e1
 cases e1
 have hlen:=h.len
 refine ⟨_,copyB (N:=N) (c:=c) hg' hb hfit (by omega),?_,⟨rfl,rfl,rfl,by simp [World.setRow],fun k hk hne=>setRow_other _ _ _ _ hne,fun _ h=>.inl h⟩⟩
 have hfr:Fr w (w.setRow g (cur.toList.take q++encN .u8 b++cur.toList.drop (q+(encN .u8 b).length)).toArray) (fun x=>x=g) (fun x=>x=g):=⟨rfl,rfl,rfl,by simp [World.setRow],fun k hk hne=>setRow_other _ _ _ _ hne,fun _ h=>.inl h⟩
 refine ⟨hfr.row h.hp (fun e=>h.gp e.symm),⟨by rw [encN_length];simp;omega,.inr ⟨g,c,_,rfl,hg0,setRow_heap w g cur _ 5 _ hg',hn,hm,?_,?_⟩⟩,own_fr h.tr hfr (fun x e e2=>h.gt (by rw [e,e2])),by simp;omega,h.k,fun y hy=>?_,h.tl⟩
 ·have:=encN_length .u8 b
  simp
  omega
 ·have hl2:(encN .u8 b).length=b.length:=encN_length _ _
  have:=mspl_take cur.toList (encN .u8 b) (q:=q) (N:=N) (by omega) (by simp;omega)
  simp only [Nat.mul_one] at ht ⊢
  rw [this,ht,hl2,encN_append,encN_append]
  simp [encN,List.map_take,List.map_drop]
 ·rcases List.mem_append.1 hy with hy|hy
  ·rcases List.mem_append.1 hy with hy|hy
   ·exact h.lt y (List.mem_of_mem_take hy)
   ·exact hb.2 y hy
  ·exact h.lt y (List.mem_of_mem_drop hy)
theorem write_any (h:MemAt w p g c N vt d logs tou) {a:Nat} {v:Value} {b:List Nat} (ha:a<4294967296) (hb:Bytes w v b) (hl:b.length≤65536) (hv:0<b.length→∀ x,v.ownBlock=some x→x≠p∧x≠g∧vt.ownBlock≠some x) :
 Calls Tryz.prog 154 #[.pointer (some ⟨p,0,none⟩),.int .u32 a,v] w fun e w'=>e=.returned (.tuple #[])∧∃ vt',MemAt w' p g c N vt' (writeN d a b) logs (touL logs tou (touN N a b.length true))∧Fr w w' (memF p g vt) (memF p g vt'):=by
 have hmx:Tryz.prog.follows .mixedOrders=true:=by kernel_rfl
 obtain ⟨W1,hW1⟩:∃ W1,W1=(w.alloc (.cells #[.pointer (some ⟨p,0,none⟩)] 83)).alloc (.cells #[v] 24):=⟨_,rfl⟩
 have HB1:=Lib.hid (show Below w.heap.size w W1 from by rw [hW1];exact Bel.al (Bel.new _ _) _)
 have hg1:W1.heap[w.heap.size]?=some (.cells #[.pointer (some ⟨p,0,none⟩)] 83 (0,0)):=by rw [hW1,Below.heap_alloc _ _ _ (by simp)];exact heap_alloc_new _ _
 have hg2:W1.heap[w.heap.size+1]?=some (.cells #[v] 24 (0,0)):=by
  rw [hW1]
  have:=heap_alloc_new (w.alloc (.cells #[.pointer (some ⟨p,0,none⟩)] 83)) (.cells #[v] 24)
  simpa using this
 have hlt1:=(Array.getElem?_eq_some_iff.1 hg1).1
 have hlt2:=(Array.getElem?_eq_some_iff.1 hg2).1
 have HBy:=Lib.hid (hb.below HB1.out)
 have HM:=Lib.hid h
 have HM1:=Lib.hid (h.below HB1.out)
 obtain ⟨va,vc,rfl,hvn,hvm,hva,hvp⟩:=hb.opened
 have hc1:=cell_of_row W1 w.heap.size 0 _ _ _ hg1
 have hc2:=cell_of_row W1 (w.heap.size+1) 0 _ _ _ hg2
 go_enter Tryz.func154,Tryz.ntmps154
 go_wp2_with fail
 rw [← hW1]
 refine (plain_any HM1.out a b.length ha hl).mono ?_
 rintro e w2 ⟨rfl,hb2⟩
 have HB2:=Lib.hid (Bel.tr HB1.out hb2)
 have HM2:=Lib.hid (HM1.out.below hb2)
 have HBy2:=Lib.hid (HBy.out.below hb2)
 have k1:=(hb2.block _ hlt1).trans hg1
 have k2:=(hb2.block _ hlt2).trans hg2
 have d1:=cell_of_row w2 w.heap.size 0 _ _ _ k1
 have d2:=cell_of_row w2 (w.heap.size+1) 0 _ _ _ k2
 have HS2:=Lib.hid hb2.size
 by_cases hpl:logs=false∧a % N+b.length≤N
 ·obtain ⟨rfl,hpl⟩:=hpl
  have HPl:=Lib.hid hpl
  rw [show (!false && decide (a % N+b.length≤N))=true from by simp [hpl]]
  clear hpl
  obtain ⟨⟨c0,c1,c2⟩,-⟩:=cells379 HM2.out.hp
  have HP:=Lib.hid ((place_any (HM2.out.below (Below.refl _ _).drew) a ha).mono (R':=fun e w'=>e=.returned (.int .u32 (a % N:Nat))∧w'=w2.drew) (fun e w' h=>⟨h.1,h.2.symm⟩))
  have hN:=HM2.out.sizes.1
  have hq:a % N<N:=Nat.mod_lt _ (by omega)
  have HWp:=Lib.hid (show writeN d a b=d.take (a % N)++b++d.drop (a % N+b.length) from by
   have:=writeTo_plain d a b (by rw [HM.out.len];exact HPl.out) b.length (Nat.le_refl _)
   rw [HM.out.len,List.take_length] at this
   exact this)
  obtain ⟨W3,hrun,hm3,hf3⟩:=(HM2.out.below (Below.refl _ _).drew).copied (HBy2.out.below (Below.refl _ _).drew) HPl.out
  rw [← HWp.out] at hm3
  have HM3:=Lib.hid hm3
  have HF3:=Lib.hid hf3
  have HR:=Lib.hid hrun
  clear hm3 hf3 hrun
  generalize a % N=q at *
  have hqi:(q:Int)≤(N:Int):=by omega
  have hq0:(0:Int)≤(q:Int):=by omega
  have hcN:N≤c:=by
   rcases HM.out.row.2 with ⟨e1,-⟩|⟨g',cap,cur,e1,hg0,hg',hn,hm,hs,ht⟩
   ·cases e1
   ·cases e1;exact hn
  have hcq:¬ c=q:=by omega
  clear h hv hb hvp hg1 hg2 hlt1 hlt2 hc1 hc2 k1 k2 hb2 hW1 hvn hva hl
  go_wp2_with fail
  refine wp_region_still_tail 9 hmx (by kernel_rfl) ?_
  simp only [List.take_succ_cons,List.take_zero,List.drop_succ_cons,List.drop_zero]
  repeat still_step
  still_call (HP.out)
  repeat still_step
  refine wpStill_nil ?_
  change wpList _ _ _ _ _ w2.drew
  refine wpList_copy_runI w2.drew (o:=⟨some 20,.call { callee:=.builtin .copy,args:=#[.tmp 18,.tmp 19],argTypes:=#[24,24] },_,_,_,none⟩) rfl (.tmp 18) (.tmp 19) 24 24 rfl (.slice (some ⟨g,q,none⟩) (N - q) (c - q)) (.slice va b.length vc) (by simp [Act.eval,Act.put];try omega) (by simp [Act.eval,Act.put]) HR.out ?_
  go_wp2
  (try simp only [Exit.inBlock,Exit.then])
  refine bodyPost_ret (results_none rfl _ _ _) rfl ?_
  exact ⟨rfl,vt,HM3.out,(Fr.of HB2.out (memF p g vt)).trans (((Fr.refl w2 (memF p g vt)).drew).trans (HF3.out.mono (fun i e=>.inr (.inl e)) (fun i e=>.inl e)))⟩
 ·rw [show (!logs && decide (a % N+b.length≤N))=false from by
   cases logs
   ·simp at hpl ⊢;omega
   ·rfl]
  have HV:=Lib.hid hv
  have HVp:=Lib.hid hvp
  have HEa:=Lib.hid (each_any 180 (.pointer (some ⟨w.heap.size+1,0,none⟩)) (.pointer (some ⟨w.heap.size,0,none⟩)) (fun _=>False) (fun x=>(x=w.heap.size ∨ x=w.heap.size+1) ∨ (0<b.length∧(Value.slice va b.length vc).ownBlock=some x)∧x<w.heap.size)
   (fun _ W=>(W.heap[w.heap.size]?=some (.cells #[.pointer (some ⟨p,0,none⟩)] 83 (0,0))∧W.heap[w.heap.size+1]?=some (.cells #[.slice va b.length vc] 24 (0,0)))∧∀ x,(0<b.length∧(Value.slice va b.length vc).ownBlock=some x)→x<w.heap.size→W.heap[x]?=w.heap[x]?)
   (fun k=>writeTo d a b k) true b.length a callFunc472 hl ha HM2.out
   (fun x hx=>by
    have hps:=HM.out.plt
    have hsz:=HB2.out.size
    have htl:∀ y,vt.ownBlock=some y→y<w.heap.size:=fun y e=>by
     rcases HM.out.tr.2 with ⟨e1,-⟩|⟨g',cap,cur,e1,-,hg',-⟩
     ·rw [e1] at e;cases e
     ·rw [e1] at e;cases e
      exact (Array.getElem?_eq_some_iff.1 hg').1
    rcases hx with (rfl|rfl)|⟨hx,hx2⟩
    ·exact ⟨by have:=HS2.out;omega,by omega,fun e=>by have:=htl _ e;omega⟩
    ·exact ⟨by have:=HS2.out;omega,by omega,fun e=>by have:=htl _ e;omega⟩
    ·exact ⟨by omega,(HV.out hx.1 x hx.2).1,(HV.out hx.1 x hx.2).2.2⟩)
   (fun k W W' hJ hs hR=>⟨⟨(hR _ (.inl (.inl rfl))).trans hJ.1.1,(hR _ (.inl (.inr rfl))).trans hJ.1.2⟩,fun x hx hx2=>(hR x (.inr ⟨hx,hx2⟩)).trans (hJ.2 x hx hx2)⟩)
   ⟨⟨k1,k2⟩,fun x hx hx2=>HB2.out.block x hx2⟩
   (fun k hk W u t hm hJ hs hu=>by
    have hN:=hm.sizes.1
    have hq:(a+k) % N<N:=Nat.mod_lt _ (by omega)
    obtain ⟨bb,off,rfl,hbb,hcc⟩:=HVp.out (by omega)
    have h3:W.cell? ⟨bb,off+k,none⟩=some (.int .u8 (b.getD k 0:Nat)):=(World.cell?_of_block (hJ.2 bb ⟨by omega,rfl⟩ hbb)).trans (hcc k hk)
    refine (write1_any hm hk hq (cell_of_row W _ 0 _ _ _ hJ.1.1) (cell_of_row W _ 0 _ _ _ hJ.1.2) h3).mono ?_
    rintro e W' ⟨rfl,rfl⟩
    have hgl:=HM.out.glt
    have hx8:b.getD k 0<256:=by
     rw [List.getD_eq_getElem?_getD,List.getElem?_eq_getElem hk];exact HBy.out.2 _ (List.getElem_mem hk)
    have hmd:=(hm.below (Below.refl _ _).drew).put hq (x:=b.getD k 0) hx8
    refine ⟨rfl,?_,⟨⟨(Below.heap_setCell _ _ _ _ (by show w.heap.size≠g;omega)).trans hJ.1.1,(Below.heap_setCell _ _ _ _ (by show w.heap.size+1≠g;omega)).trans hJ.1.2⟩,fun x hx hx2=>(Below.heap_setCell _ _ _ _ (by show x≠g;exact (HV.out hx.1 x hx.2).2.1)).trans (hJ.2 x hx hx2)⟩,?_⟩
    ·have hl':=hm.len
     show MemAt _ p g c N u (putN (writeTo d a b k) (a+k) (b.getD k 0)) logs t
     unfold putN
     rw [hl']
     exact hmd
    ·exact ((Fr.refl W (fun b=>b=g ∨ False)).drew).trans (Fr.setCell W.drew (F:=fun b=>b=g ∨ False) (a:=⟨g,_,none⟩) (.inl rfl) _)))
  clear hv hvp hb h k1 k2 hpl hb2 hg1 hg2 hlt1 hlt2 hc1 hc2
  go_wp2_with fail
  refine HEa.out.mono ?_
  rintro e w3 ⟨rfl,vt',he⟩
  have HF:=Lib.hid he
  clear he
  go_wp2_with fail
  go_end0
  exact ⟨rfl,vt',HF.out.m,HF.out.out HB2.out (fun b h=>h.elim)⟩
end
def readV (d:List Nat) (a n k:Nat):List Nat:=(List.range n).map fun i=>loadX d a k i
theorem readV_length (d:List Nat) (a n k:Nat):(readV d a n k).length=n:=by simp [readV]
theorem readV_zero (d:List Nat) (a n:Nat):readV d a n 0=List.replicate n 0:=by
 apply List.ext_getElem
 ·simp [readV]
 ·intro i h1 h2
  simp [readV,loadX]
theorem readV_set (d:List Nat) (a n:Nat) {k:Nat} (hk:k<n):(readV d a n k).set k (byteAt d (a+k))=readV d a n (k+1):=by
 apply List.ext_getElem
 ·simp [readV]
 ·intro i h1 h2
  rw [List.getElem_set]
  simp only [readV,List.getElem_map,List.getElem_range,loadX]
  by_cases h:k=i
  ·subst h;simp
  ·rw [if_neg h]
   by_cases h3:i<k
   ·rw [if_pos h3,if_pos (by omega)]
   ·rw [if_neg h3,if_neg (by omega)]
theorem readV_all (d:List Nat) (a n:Nat):readV d a n n=bytesN d a n:=by
 apply List.ext_getElem
 ·simp [readV,bytesN]
 ·intro i h1 h2
  have:i<n:=by simpa [readV] using h1
  simp [readV,bytesN,loadX,this]
section
variable {w:World} {p g c N:Nat} {vt:Value} {d:List Nat} {logs:Bool} {tou:List (Nat×Bool)}
theorem read1_any (h:MemAt w p g c N vt d logs tou) {k q q1 q2 n cb b:Nat} (hk:k<n) (hq:q<N) {x:Value} (h1:w.cell? ⟨q1,0,none⟩=some (.pointer (some ⟨p,0,none⟩))) (h2:w.cell? ⟨q2,0,none⟩=some (.slice (some ⟨b,0,none⟩) n cb)) (h3:w.cell? ⟨b,k,none⟩=some x) (h4:w.frozen? ⟨b,k,none⟩=false) :
 Calls Tryz.prog 181 #[.int .i64 k,.int .u32 q,.pointer (some ⟨q1,0,none⟩),.pointer (some ⟨q2,0,none⟩)] w fun e w'=>e=.returned (.tuple #[])∧w'=w.drew.setCell ⟨b,k,none⟩ (.int .u8 (d.getD q 0:Nat)):=by
 have hmx:Tryz.prog.follows .mixedOrders=true:=by kernel_rfl
 obtain ⟨⟨c0,c1,c2⟩,-⟩:=cells379 h.hp
 have hg:=h.cell hq
 have hki:(k:Int)<(n:Int):=by omega
 have hqi:(q:Int)<(N:Int):=by omega
 clear h
 generalize d.getD q 0=y at *
 go_enter Tryz.func181,Tryz.ntmps181
 go_wp2_with fail
 refine wp_region_still_tail 10 hmx (by kernel_rfl) ?_
 simp only [List.take_succ_cons,List.take_zero,List.drop_succ_cons,List.drop_zero]
 repeat still_step
 refine wpStill_nil ?_
 change wpList _ _ _ _ _ w.drew
 go_wp2
 go_end0
 exact ⟨rfl,rfl⟩
theorem mread_any (h:MemAt w p g c N vt d logs tou) {a n:Nat} (ha:a<4294967296) (hn:n≤65536) :
 Calls Tryz.prog 155 #[.pointer (some ⟨p,0,none⟩),.int .u32 a,.int .i64 n] w fun e w'=>∃ r vt',e=.returned (.slice (some ⟨r,0,none⟩) n n)∧w.heap.size≤r∧w'.ownsRow w.heap.size 5 1 (.slice (some ⟨r,0,none⟩) n n) n (encN .u8 (bytesN d a n))∧MemAt w' p g c N vt' d logs (touL logs tou (touN N a n false))∧Fr w w' (memF p g vt) (memF p g vt'):=by
 have hmx:Tryz.prog.follows .mixedOrders=true:=by kernel_rfl
 have hn0:(0:Int)≤(n:Int):=by omega
 have hnm:(n:Int)≤140737488355328:=by omega
 obtain ⟨i5,hi5,x0,x1,x2⟩:=info_parts inf5
 have HM:=Lib.hid h
 obtain ⟨Wa,hWa⟩:∃ Wa,Wa=w.alloc (.cells #[.pointer (some ⟨p,0,none⟩)] 83):=⟨_,rfl⟩
 have HBa:=Lib.hid (show Below w.heap.size w Wa from by rw [hWa];exact Bel.new _ _)
 have HHa:=Lib.hid (show Wa.heap[w.heap.size]?=some (.cells #[.pointer (some ⟨p,0,none⟩)] 83 (0,0)) from by rw [hWa];exact heap_alloc_new _ _)
 have HSa:=Lib.hid (show Wa.heap.size=w.heap.size+1 from by rw [hWa];simp)
 have HWa:=Lib.hid hWa
 clear h hWa
 go_enter Tryz.func155,Tryz.ntmps155
 go_wp2_with (at_make;rw [← HWa.out];refine wpList_make_full _ rfl _ _ 24 rfl Wa.heap.size 5 i5 (.int .u8 0) 1 Tryz.underlying24 hi5 x0 x1 .i64 .i64 _ _ n rfl rfl rfl rfl (by rw [x2];omega) (by unfold maxLen;omega) (Nat.le_refl _) ?_;intro w9 ho9 hg9;rw [made_bytes] at ho9;have hb9:=below_of_none hg9;have k9:=(hb9.block _ (show w.heap.size<Wa.heap.size by rw [HSa.out];omega)).trans HHa.out;have d9:=cell_of_row w9 w.heap.size 0 _ _ _ k9;have hlt9:w.heap.size<w9.heap.size:=(Array.getElem?_eq_some_iff.1 k9).1;have HK9:=Lib.hid k9;have HO9:=Lib.hid ho9;have HB9:=Lib.hid hb9;clear ho9 hg9 hb9 k9)
 obtain ⟨W1,hW1⟩:∃ W1,W1=w9.alloc (.cells #[.slice (some ⟨Wa.heap.size,0,none⟩) n n] 24):=⟨_,rfl⟩
 have hb1:Below w9.heap.size w9 W1:=by rw [hW1];exact Bel.new _ _
 have HB1:=Lib.hid (show Below w.heap.size w W1 from Bel.tr (Bel.tr HBa.out HB9.out) hb1)
 have hh1:W1.heap[w9.heap.size]?=some (.cells #[.slice (some ⟨Wa.heap.size,0,none⟩) n n] 24 (0,0)):=by rw [hW1];exact heap_alloc_new _ _
 have k1:=(hb1.block _ hlt9).trans HK9.out
 have HO1:=Lib.hid (own_below HO9.out hb1)
 have HM1:=Lib.hid (HM.out.below HB1.out)
 have hs9:=HB9.out.size
 have hlt1:=(Array.getElem?_eq_some_iff.1 hh1).1
 rw [← hW1]
 clear hW1 d9
 refine (plain_any HM1.out a n ha hn).mono ?_
 rintro e w2 ⟨rfl,hb2⟩
 have HB2:=Lib.hid (Bel.tr HB1.out hb2)
 have HM2:=Lib.hid (HM1.out.below hb2)
 have HO2:=Lib.hid (own_below HO1.out hb2)
 have j1:=(hb2.block _ (show w.heap.size<W1.heap.size by omega)).trans k1
 have j2:=(hb2.block _ hlt1).trans hh1
 have d1:=cell_of_row w2 w.heap.size 0 _ _ _ j1
 have d2:=cell_of_row w2 w9.heap.size 0 _ _ _ j2
 have HS2:=Lib.hid hb2.size
 obtain ⟨cur,q1,q2,q3,q4,q5,q6⟩:=own_cur HO2.out
 have hcur:cur=encN .u8 (readV d a n 0):=by rw [readV_zero,← q5,List.take_of_length_le (by omega)]
 subst hcur
 have hs1:=HBa.out.size
 have hsa:=HSa.out
 have hlt9':=(Array.getElem?_eq_some_iff.1 q1).1
 have hne:Wa.heap.size≠w9.heap.size:=by
  have:=(Array.getElem?_eq_some_iff.1 (own_cur HO9.out).choose_spec.1).1
  omega
 have HFin:=Lib.hid (fun (W:World) (hW:W.heap[Wa.heap.size]?=some (.cells (encN .u8 (bytesN d a n)).toArray 5 (0,0)))=>(⟨by rw [encN_length];simp [bytesN],.inr ⟨Wa.heap.size,n,_,rfl,hs1,hW,Nat.le_refl _,by unfold maxLen;omega,by simp [encN_length,bytesN],by rw [List.take_of_length_le];simp [encN_length,bytesN]⟩⟩:W.ownsRow w.heap.size 5 1 (.slice (some ⟨Wa.heap.size,0,none⟩) n n) n (encN .u8 (bytesN d a n))))
 by_cases hpl:logs=false∧a % N+n≤N
 ·obtain ⟨rfl,hpl⟩:=hpl
  have HPl:=Lib.hid hpl
  rw [show (!false && decide (a % N+n≤N))=true from by simp [hpl]]
  obtain ⟨⟨c0,c1,c2⟩,-⟩:=cells379 HM2.out.hp
  have HP:=Lib.hid ((place_any (HM2.out.below (Below.refl _ _).drew) a ha).mono (R':=fun e w'=>e=.returned (.int .u32 (a % N:Nat))∧w'=w2.drew) (fun e w' h=>⟨h.1,h.2.symm⟩))
  have hN:=HM2.out.sizes.1
  have hq:a % N<N:=Nat.mod_lt _ (by omega)
  have hsz5:(Tryz.prog.info? 5).map (fun x=>x.size)=some 1:=by kernel_rfl
  have hR:=run_copy_row (P:=Tryz.prog) w2.drew 24 24 3 5 Wa.heap.size 0 n n ⟨g,a % N,none⟩ (N - a % N) (c - a % N) (encN .u8 (readV d a n 0)).toArray 5 (encN .u8 (bytesN d a n)) Tryz.underlying24 hsz5 q1 (by rw [encN_length];simp only [bytesN,List.length_map,List.length_range];exact (Nat.min_eq_right (by omega)).symm) (fun j x hj=>by
   have hjl:j<n:=by have:=(List.getElem?_eq_some_iff.1 hj).1;rw [encN_length] at this;simpa [bytesN] using this
   rw [encN_at .u8 _ j (by simpa [bytesN] using hjl)] at hj
   rw [Addr.add_mid]
   refine ((HM2.out.below (Below.refl _ _).drew).cell (q:=a % N+j) (by omega)).trans ?_
   rw [← hj]
   congr 2
   have:(a+j) % N=a % N+j:=by
    rw [Nat.add_mod,Nat.mod_eq_of_lt (show a % N+j % N<N by have:=Nat.mod_le j N;omega),Nat.mod_eq_of_lt (show j<N by omega)]
   simp [bytesN,List.getD_eq_getElem?_getD,hjl,byteAt,HM2.out.len,this]) (by rw [encN_length];simp [bytesN,encN_length,readV_length]) (encN_one .u8 _)
  rw [show ((encN .u8 (readV d a n 0)).toArray.toList.take 0++encN .u8 (bytesN d a n)++(encN .u8 (readV d a n 0)).toArray.toList.drop (0+(encN .u8 (bytesN d a n)).length))=encN .u8 (bytesN d a n) from by
   rw [List.take_zero,List.nil_append,List.drop_of_length_le (by simp [encN_length,bytesN,readV_length]),List.append_nil]] at hR
  obtain ⟨W3,hW3⟩:∃ W3,W3=w2.drew.setRow Wa.heap.size (encN .u8 (bytesN d a n)).toArray:=⟨_,rfl⟩
  have hh3:W3.heap[Wa.heap.size]?=some (.cells (encN .u8 (bytesN d a n)).toArray 5 (0,0)):=by rw [hW3];exact setRow_heap _ _ _ _ _ _ q1
  have hf3:Fr w2 W3 (fun x=>x=Wa.heap.size) (fun x=>x=Wa.heap.size):=by rw [hW3];exact ⟨rfl,rfl,rfl,by simp [World.setRow],fun k hk hne=>setRow_other w2.drew _ _ _ hne,fun _ h=>.inl h⟩
  rw [← hW3] at hR
  have HR:=Lib.hid hR
  have HH3:=Lib.hid hh3
  have HF3:=Lib.hid hf3
  have d3:=cell_of_row W3 w9.heap.size 0 _ _ _ (hf3.row j2 (fun e=>hne e.symm))
  have hgl:=HM.out.glt
  have hpl':=HM.out.plt
  have htl:∀ y,vt.ownBlock=some y→y<w.heap.size:=fun y e=>by
   rcases HM.out.tr.2 with ⟨e1,-⟩|⟨g',cap,cur,e1,-,hg',-⟩
   ·rw [e1] at e;cases e
   ·rw [e1] at e;cases e
    exact (Array.getElem?_eq_some_iff.1 hg').1
  have HM3:=Lib.hid (HM2.out.fr hf3 (by
   rintro b (rfl|rfl|e) hb
   ·omega
   ·omega
   ·have:=htl _ e;omega))
  have HFo:=Lib.hid (show Fr w W3 (memF p g vt) (memF p g vt) from ⟨hf3.os.trans HB2.out.os,hf3.tape.trans HB2.out.tape,hf3.output.trans HB2.out.output,Nat.le_trans HB2.out.size hf3.size,fun k hk hn=>(hf3.block k (by have:=HB2.out.size;omega) (by show k≠Wa.heap.size;omega)).trans (HB2.out.block k hk),fun _ h=>.inl h⟩)
  have hcN:N≤c:=by
   rcases HM.out.row.2 with ⟨e1,-⟩|⟨g',cap,cur,e1,hg0,hg',hn,hm,hs,ht⟩
   ·cases e1
   ·cases e1;exact hn
  generalize a % N=q at *
  have hqi:(q:Int)≤(N:Int):=by omega
  have hq0:(0:Int)≤(q:Int):=by omega
  have hcq:¬ c=q:=by omega
  clear hpl hb2 j1 j2 k1 hh1 q1 q2 q3 q4 q5 q6 hb1 hs1 hsa hlt9' hne hs9 hlt1 hW3 hR hh3 hf3 htl hgl hpl'
  go_wp2_with fail
  refine wp_region_still_tail 9 hmx (by kernel_rfl) ?_
  simp only [List.take_succ_cons,List.take_zero,List.drop_succ_cons,List.drop_zero]
  repeat still_step
  still_call (HP.out)
  repeat still_step
  refine wpStill_nil ?_
  change wpList _ _ _ _ _ w2.drew
  refine wpList_copy_runI w2.drew (o:=⟨some 23,.call { callee:=.builtin .copy,args:=#[.tmp 14,.tmp 22],argTypes:=#[24,24] },_,_,_,none⟩) rfl (.tmp 14) (.tmp 22) 24 24 rfl (.slice (some ⟨Wa.heap.size,0,none⟩) n n) (.slice (some ⟨g,q,none⟩) (N - q) (c - q)) (by simp [Act.eval,Act.put]) (by simp [Act.eval,Act.put];try omega) HR.out ?_
  go_wp2
  go_ret
  exact ⟨_,vt,rfl,HBa.out.size,HFin.out W3 HH3.out,HM3.out,HFo.out⟩
 ·rw [show (!logs && decide (a % N+n≤N))=false from by
   cases logs
   ·simp at hpl ⊢;omega
   ·rfl]
  have HEa:=Lib.hid (each_any 181 (.pointer (some ⟨w.heap.size,0,none⟩)) (.pointer (some ⟨w9.heap.size,0,none⟩)) (fun x=>x=Wa.heap.size) (fun x=>x=w.heap.size ∨ x=w9.heap.size ∨ x=Wa.heap.size)
   (fun k W=>(W.heap[w.heap.size]?=some (.cells #[.pointer (some ⟨p,0,none⟩)] 83 (0,0))∧W.heap[w9.heap.size]?=some (.cells #[.slice (some ⟨Wa.heap.size,0,none⟩) n n] 24 (0,0)))∧W.heap[Wa.heap.size]?=some (.cells (encN .u8 (readV d a n k)).toArray 5 (0,0)))
   (fun _=>d) false n a callFunc473 hn ha HM2.out
   (fun x hx=>by
    have hps:=HM.out.plt
    have hss:=HS2.out
    have htl:∀ y,vt.ownBlock=some y→y<w.heap.size:=fun y e=>by
     rcases HM.out.tr.2 with ⟨e1,-⟩|⟨g',cap,cur,e1,-,hg',-⟩
     ·rw [e1] at e;cases e
     ·rw [e1] at e;cases e
      exact (Array.getElem?_eq_some_iff.1 hg').1
    rcases hx with rfl|rfl|rfl
    ·exact ⟨by omega,by omega,fun e=>by have:=htl _ e;omega⟩
    ·exact ⟨by omega,by omega,fun e=>by have:=htl _ e;omega⟩
    ·exact ⟨by omega,by omega,fun e=>by have:=htl _ e;omega⟩)
   (fun k W W' hJ hs hR=>⟨⟨(hR _ (.inl rfl)).trans hJ.1.1,(hR _ (.inr (.inl rfl))).trans hJ.1.2⟩,(hR _ (.inr (.inr rfl))).trans hJ.2⟩)
   ⟨⟨j1,j2⟩,q1⟩
   (fun k hk W u t hm hJ hs hu=>by
    have hN:=hm.sizes.1
    have hq:(a+k) % N<N:=Nat.mod_lt _ (by omega)
    have hkl:k<(encN .u8 (readV d a n k)).toArray.size:=by simp [encN_length,readV_length,hk]
    refine (read1_any hm hk hq (cell_of_row W _ 0 _ _ _ hJ.1.1) (cell_of_row W _ 0 _ _ _ hJ.1.2) ((cell_of_row W _ k _ _ _ hJ.2).trans (Array.getElem?_eq_getElem hkl)) (frozen_of_row W _ k _ _ hJ.2)).mono ?_
    rintro e W' ⟨rfl,rfl⟩
    have hgl:=HM.out.glt
    have hpl':=HM.out.plt
    have e1:d.getD ((a+k) % N) 0=byteAt d (a+k):=by unfold byteAt;rw [hm.len]
    rw [e1]
    have hfr:Fr W (W.drew.setCell ⟨Wa.heap.size,k,none⟩ (.int .u8 (byteAt d (a+k)))) (fun b=>b=Wa.heap.size) (fun b=>b=Wa.heap.size):=((Fr.refl W (fun b=>b=Wa.heap.size)).drew).trans (Fr.setCell W.drew (F:=fun b=>b=Wa.heap.size) (a:=⟨Wa.heap.size,k,none⟩) rfl _)
    refine ⟨rfl,hm.fr hfr ?_,⟨⟨(Below.heap_setCell _ _ _ _ (by show w.heap.size≠Wa.heap.size;omega)).trans hJ.1.1,(Below.heap_setCell _ _ _ _ (by show w9.heap.size≠Wa.heap.size;omega)).trans hJ.1.2⟩,?_⟩,hfr.mono (fun i hi=>.inr hi) (fun i hi=>.inl hi)⟩
    ·rintro b (rfl|rfl|e) hb
     ·omega
     ·omega
     ·exact hu _ (.inr (.inr hb)) e
    ·rw [← readV_set d a n hk,← encN_set]
     have:=heap_setCell_same W.drew Wa.heap.size k _ _ (.int .u8 (byteAt d (a+k))) hJ.2
     rw [this]
     simp))
  clear hpl hb2 j1 j2 k1 hh1 q1 q2 q3 q4 q5 q6 hb1 hs1 hsa hlt9' hne hs9 hlt1
  go_wp2_with fail
  refine HEa.out.mono ?_
  rintro e w3 ⟨rfl,vt',he⟩
  have HF:=Lib.hid he
  have d3:=cell_of_row w3 w9.heap.size 0 _ _ _ he.j.1.2
  clear he d1 d2
  go_wp2_with fail
  go_ret
  exact ⟨_,vt',rfl,HBa.out.size,HFin.out w3 (by rw [← readV_all];exact HF.out.j.2),HF.out.m,HF.out.out HB2.out (fun b h=>by have:=HBa.out.size;omega)⟩
end
def LoadPost (d:List Nat) (logs:Bool) (tou:List (Nat×Bool)) (p g c N:Nat) (vt:Value) (a n:Nat) (w:World) (e:Ending) (w':World):Prop :=
 e=.returned (.int .u32 (loadN d a n))∧∃ vt',MemAt w' p g c N vt' d logs (touL logs tou (touN N a n false))∧Fr w w' (memF p g vt) (memF p g vt')
def StorePost (d:List Nat) (logs:Bool) (tou:List (Nat×Bool)) (p g c N:Nat) (vt:Value) (a v n:Nat) (w:World) (e:Ending) (w':World):Prop :=
 e=.returned (.tuple #[])∧∃ vt',MemAt w' p g c N vt' (storeN d a v n) logs (touL logs tou (touN N a n true))∧Fr w w' (memF p g vt) (memF p g vt')
section
variable {w:World} {p g c N:Nat} {vt:Value} {d:List Nat} {logs:Bool} {tou:List (Nat×Bool)}
theorem load1_mem (h:MemAt w p g c N vt d logs tou) {a:Nat} (ha:a<4294967296):Calls Tryz.prog 124 #[.pointer (some ⟨p,0,none⟩),.int .u32 a] w (LoadPost d logs tou p g c N vt a 1 w):=by
 have H:=Lib.hid (mload_any h ha (show 1≤4 by omega))
 clear h
 go_enter Tryz.func124,Tryz.ntmps124
 go_wp2_with fail
 refine H.out.mono ?_
 rintro e w' ⟨rfl,hr⟩
 have HR:=Lib.hid hr
 clear hr
 go_wp2_with fail
 go_ret
 exact ⟨rfl,HR.out⟩
theorem load2_mem (h:MemAt w p g c N vt d logs tou) {a:Nat} (ha:a<4294967296):Calls Tryz.prog 125 #[.pointer (some ⟨p,0,none⟩),.int .u32 a] w (LoadPost d logs tou p g c N vt a 2 w):=by
 have H:=Lib.hid (mload_any h ha (show 2≤4 by omega))
 clear h
 go_enter Tryz.func125,Tryz.ntmps125
 go_wp2_with fail
 refine H.out.mono ?_
 rintro e w' ⟨rfl,hr⟩
 have HR:=Lib.hid hr
 clear hr
 go_wp2_with fail
 go_ret
 exact ⟨rfl,HR.out⟩
theorem load4_mem (h:MemAt w p g c N vt d logs tou) {a:Nat} (ha:a<4294967296):Calls Tryz.prog 118 #[.pointer (some ⟨p,0,none⟩),.int .u32 a] w (LoadPost d logs tou p g c N vt a 4 w):=by
 have H:=Lib.hid (mload_any h ha (show 4≤4 by omega))
 clear h
 go_enter Tryz.func118,Tryz.ntmps118
 go_wp2_with fail
 refine H.out.mono ?_
 rintro e w' ⟨rfl,hr⟩
 have HR:=Lib.hid hr
 clear hr
 go_wp2_with fail
 go_ret
 exact ⟨rfl,HR.out⟩
theorem store1_mem (h:MemAt w p g c N vt d logs tou) {a v:Nat} (ha:a<4294967296) (hv:v<4294967296):Calls Tryz.prog 126 #[.pointer (some ⟨p,0,none⟩),.int .u32 a,.int .u32 v] w (StorePost d logs tou p g c N vt a v 1 w):=by
 have H:=Lib.hid (store_any h ha hv (show 1≤4 by omega))
 clear h
 go_enter Tryz.func126,Tryz.ntmps126
 go_wp2_with fail
 refine H.out.mono ?_
 rintro e w' ⟨rfl,hr⟩
 have HR:=Lib.hid hr
 clear hr
 go_wp2_with fail
 go_end0
 exact ⟨rfl,HR.out⟩
theorem store2_mem (h:MemAt w p g c N vt d logs tou) {a v:Nat} (ha:a<4294967296) (hv:v<4294967296):Calls Tryz.prog 127 #[.pointer (some ⟨p,0,none⟩),.int .u32 a,.int .u32 v] w (StorePost d logs tou p g c N vt a v 2 w):=by
 have H:=Lib.hid (store_any h ha hv (show 2≤4 by omega))
 clear h
 go_enter Tryz.func127,Tryz.ntmps127
 go_wp2_with fail
 refine H.out.mono ?_
 rintro e w' ⟨rfl,hr⟩
 have HR:=Lib.hid hr
 clear hr
 go_wp2_with fail
 go_end0
 exact ⟨rfl,HR.out⟩
theorem store4_mem (h:MemAt w p g c N vt d logs tou) {a v:Nat} (ha:a<4294967296) (hv:v<4294967296):Calls Tryz.prog 48 #[.pointer (some ⟨p,0,none⟩),.int .u32 a,.int .u32 v] w (StorePost d logs tou p g c N vt a v 4 w):=by
 have H:=Lib.hid (store_any h ha hv (show 4≤4 by omega))
 clear h
 go_enter Tryz.func48,Tryz.ntmps48
 go_wp2_with fail
 refine H.out.mono ?_
 rintro e w' ⟨rfl,hr⟩
 have HR:=Lib.hid hr
 clear hr
 go_wp2_with fail
 go_end0
 exact ⟨rfl,HR.out⟩
end
theorem touL_touL (logs:Bool) (t l m:List (Nat×Bool)):touL logs (touL logs t l) m=touL logs t (l++m):=by
 cases logs
 ·rfl
 ·unfold touL
  simp only [if_true]
  rw [← List.append_assoc,List.take_append (l₁:=t++l),List.take_append (l₁:=(t++l).take 65536),List.take_take,Nat.min_self,List.length_take]
  congr 1
  by_cases h:(t++l).length≤65536
  ·rw [Nat.min_eq_right h]
  ·rw [Nat.min_eq_left (by omega),Nat.sub_self,show 65536 - (t++l).length=0 by omega]
def WritePost (d:List Nat) (logs:Bool) (tou:List (Nat×Bool)) (p g c N:Nat) (vt:Value) (a:Nat) (b:List Nat) (w:World) (e:Ending) (w':World):Prop :=
 e=.returned (.int .i64 0)∧∃ vt',MemAt w' p g c N vt' (writeN d a b) logs (touL logs tou (touN N a b.length true))∧Fr w w' (memF p g vt) (memF p g vt')
section
variable {w:World} {p g c N:Nat} {vt:Value} {d:List Nat} {logs:Bool} {tou:List (Nat×Bool)}
theorem write_mem (h:MemAt w p g c N vt d logs tou) {a:Nat} {v:Value} {b:List Nat} (ha:a<4294967296) (hb:Bytes w v b) (hl:b.length≤4096) (hv:0<b.length→∀ x,v.ownBlock=some x→x≠p∧x≠g∧vt.ownBlock≠some x) :
 Calls Tryz.prog 177 #[.pointer (some ⟨p,0,none⟩),.int .u32 a,v] w (WritePost d logs tou p g c N vt a b w):=by
 have H:=Lib.hid (write_any h ha hb (by omega) hv)
 have HMd:=Lib.hid (made_any h)
 obtain ⟨va,vc,rfl,hvn,hvm,hva,hvp⟩:=hb.opened
 have hli:¬ (4096:Int)<(b.length:Int):=by omega
 clear h hb hvp hva hv
 go_enter Tryz.func177,Tryz.ntmps177
 go_wp2_with fail
 refine HMd.out.mono ?_
 rintro e w1 ⟨rfl,rfl⟩
 go_wp2_with fail
 refine H.out.mono ?_
 rintro e w' ⟨rfl,hr⟩
 have HR:=Lib.hid hr
 clear hr
 go_wp2_with fail
 go_ret
 exact ⟨rfl,HR.out⟩
def CopyPost (d:List Nat) (logs:Bool) (tou:List (Nat×Bool)) (p g c N:Nat) (vt:Value) (a x n:Nat) (w:World) (e:Ending) (w':World):Prop :=
 e=.returned (.int .i64 0)∧∃ vt',MemAt w' p g c N vt' (writeN d a (bytesN d x n)) logs (touL logs tou (touN N x n false++touN N a n true))∧Fr w w' (memF p g vt) (memF p g vt')
theorem copy_mem (h:MemAt w p g c N vt d logs tou) {a x n:Nat} (ha:a<4294967296) (hx:x<4294967296) (hn:n≤4096) :
 Calls Tryz.prog 128 #[.pointer (some ⟨p,0,none⟩),.int .u32 a,.int .u32 x,.int .u32 n] w (CopyPost d logs tou p g c N vt a x n w):=by
 have HRd:=Lib.hid (mread_any h hx (show n≤65536 by omega))
 have HMd:=Lib.hid (made_any h)
 have HM:=Lib.hid h
 have hli:¬ (4096:Int)<(n:Int):=by omega
 have hw:IntKind.i64.wrap (n:Int)=(n:Int):=IntWalk.i64_in _ (by omega)
 clear h
 go_enter Tryz.func128,Tryz.ntmps128
 go_wp2_with fail
 refine HMd.out.mono ?_
 rintro e w1 ⟨rfl,rfl⟩
 go_wp2_with fail
 refine HRd.out.mono ?_
 rintro e w2 ⟨r,v2,rfl,hr,hro,hm2,hf2⟩
 have hbl:(bytesN d x n).length=n:=by simp [bytesN]
 have hby:Bytes w2 (.slice (some ⟨r,0,none⟩) n n) (bytesN d x n):=own_bytes hro (fun y hy=>by
  obtain ⟨i,-,rfl⟩:=List.mem_map.1 hy
  exact byteAt_lt HM.out.lt _)
 have HW:=Lib.hid (write_any hm2 ha hby (by omega) (fun _ y e=>by
  have e':r=y:=by injection e
  subst e'
  have h1:=HM.out.plt
  have h2:=HM.out.glt
  refine ⟨by omega,by omega,fun e3=>?_⟩
  exact own_apart hm2.tr hro (by decide) r e3 rfl))
 have HF2:=Lib.hid hf2
 have HBl:=Lib.hid hbl
 clear hm2 hro hf2 hby hbl
 go_wp2_with fail
 refine HW.out.mono ?_
 rintro e w3 ⟨rfl,v3,hm3,hf3⟩
 rw [touL_touL,HBl.out] at hm3
 have HM3:=Lib.hid hm3
 have HF3:=Lib.hid hf3
 clear hm3 hf3
 go_wp2_with fail
 go_ret
 exact ⟨rfl,v3,HM3.out,HF2.out.trans HF3.out⟩
end
section
variable {w:World} {p g c N:Nat} {vt:Value} {d:List Nat} {logs:Bool} {tou:List (Nat×Bool)}
theorem MemAt.logged (h:MemAt w p g c N vt d logs tou) (on:Bool) :
 MemAt ((w.setCell ⟨p,1,none⟩ (.bool on)).setCell ⟨p,2,none⟩ (.slice none 0 0)) p g c N (.slice none 0 0) d on []∧Fr w ((w.setCell ⟨p,1,none⟩ (.bool on)).setCell ⟨p,2,none⟩ (.slice none 0 0)) (memF p g vt) (memF p g (.slice none 0 0)):=by
 have hfr:Fr w ((w.setCell ⟨p,1,none⟩ (.bool on)).setCell ⟨p,2,none⟩ (.slice none 0 0)) (fun x=>x=p) (fun x=>x=p):=(Fr.setCell w (F:=fun x=>x=p) (a:=⟨p,1,none⟩) rfl _).trans (Fr.setCell _ (F:=fun x=>x=p) (a:=⟨p,2,none⟩) rfl _)
 refine ⟨⟨heap_setCell_same _ p 2 _ _ _ (heap_setCell_same w p 1 _ _ _ h.hp),own_fr h.row hfr (fun x e e2=>h.gp (by injection e with e;rw [← e2,← e])),World.ownsRow_nil _ _ _ _,h.len,h.k,h.lt,by simp⟩,hfr.mono (fun i e=>.inl e) (fun i e=>?_)⟩
 rcases e with e|e|e
 ·exact .inl (.inl e)
 ·exact .inl (.inr (.inl e))
 ·cases e
theorem log_mem (h:MemAt w p g c N vt d logs tou) (on:Bool) :
 Calls Tryz.prog 44 #[.pointer (some ⟨p,0,none⟩),.bool on] w fun e w'=>e=.returned (.tuple #[])∧MemAt w' p g c N (.slice none 0 0) d on []∧Fr w w' (memF p g vt) (memF p g (.slice none 0 0)):=by
 have HMd:=Lib.hid (made_any h)
 have HL:=Lib.hid (h.logged on)
 obtain ⟨⟨c0,c1,c2⟩,hf⟩:=cells379 h.hp
 clear h
 go_enter Tryz.func44,Tryz.ntmps44
 go_wp2_with fail
 refine HMd.out.mono ?_
 rintro e w1 ⟨rfl,rfl⟩
 go_wp2_with fail
 go_end0
 exact ⟨rfl,HL.out⟩
theorem bytes_mem (h:MemAt w p g c N vt d logs tou) :
 Calls Tryz.prog 33 #[.pointer (some ⟨p,0,none⟩)] w fun e w'=>∃ v,e=.returned v∧w'.ownsRow w.heap.size 5 1 v N (encN .u8 d)∧Below w.heap.size w w':=by
 have HMd:=Lib.hid (made_any h)
 have HM:=Lib.hid h
 obtain ⟨⟨c0,c1,c2⟩,hf⟩:=cells379 h.hp
 clear h
 go_enter Tryz.func33,Tryz.ntmps33
 go_wp2_with fail
 refine HMd.out.mono ?_
 rintro e w1 ⟨rfl,rfl⟩
 go_wp2_with fail
 refine (cloneB_any _ N (encN .u8 d) (by have:=HM.out.sizes.2.1;omega) (encN_one .u8 d) w (Reads.own (own_base HM.out.row) (by decide))).mono ?_
 rintro e w2 ⟨v,rfl,ho,hb⟩
 obtain ⟨va,vc,rfl,-⟩:=own_sl ho
 have HO:=Lib.hid ho
 have HB:=Lib.hid hb
 clear ho hb c0 c1 c2 hf
 go_wp2_with fail
 go_ret
 exact ⟨_,rfl,HO.out,HB.out⟩
end
section
variable {w:World} {p g c N:Nat} {vt:Value} {d:List Nat} {logs:Bool} {tou:List (Nat×Bool)}
theorem clip_any {L vc:Nat} {va:Option Addr} (hL:L≤vc) (w:World) :
 Calls Tryz.prog 132 #[.slice va L vc] w fun e w'=>e=.returned (.slice va L L)∧w=w':=by
 go_enter Tryz.func132,Tryz.ntmps132
 go_wp2_with fail
 go_ret
 exact ⟨rfl,rfl⟩
theorem encT_one (l:List (Nat×Bool)):∀ v ∈ encT l,v.oneCell'=true:=by
 induction l with
 | nil=>intro v h;cases h
 | cons x l ih =>
  intro v h
  simp only [encT,List.mem_cons] at h
  rcases h with rfl|rfl|h
  ·rfl
  ·rfl
  ·exact ih v h
def TouchedPost (d:List Nat) (logs:Bool) (tou:List (Nat×Bool)) (p g c N:Nat) (vt:Value) (w:World) (e:Ending) (w':World):Prop :=
 ∃ va vc,vt=.slice va tou.length vc∧e=.returned (.slice va tou.length tou.length)∧w'.ownsRow 0 66 2 vt tou.length (encT tou)∧MemAt w' p g c N (.slice none 0 0) d logs []∧Fr w w' (fun x=>x=p) (fun x=>x=p)
theorem MemAt.emptied (h:MemAt w p g c N vt d logs tou) :
 MemAt (w.setCell ⟨p,2,none⟩ (.slice none 0 0)) p g c N (.slice none 0 0) d logs []∧(w.setCell ⟨p,2,none⟩ (.slice none 0 0)).ownsRow 0 66 2 vt tou.length (encT tou)∧Fr w (w.setCell ⟨p,2,none⟩ (.slice none 0 0)) (fun x=>x=p) (fun x=>x=p):=by
 have hfr:Fr w (w.setCell ⟨p,2,none⟩ (.slice none 0 0)) (fun x=>x=p) (fun x=>x=p):=Fr.setCell w (F:=fun x=>x=p) (a:=⟨p,2,none⟩) rfl _
 exact ⟨⟨heap_setCell_same w p 2 _ _ _ h.hp,own_fr h.row hfr (fun x e e2=>h.gp (by injection e with e;rw [← e2,← e])),World.ownsRow_nil _ _ _ _,h.len,h.k,h.lt,by simp⟩,own_fr h.tr hfr (fun x e e2=>h.pt (by rw [e,e2])),hfr⟩
theorem touched_mem (h:MemAt w p g c N vt d logs tou):Calls Tryz.prog 94 #[.pointer (some ⟨p,0,none⟩)] w (TouchedPost d logs tou p g c N vt w):=by
 have HMd:=Lib.hid (made_any h)
 have HE:=Lib.hid h.emptied
 obtain ⟨⟨c0,c1,c2⟩,hf⟩:=cells379 h.hp
 have hle:∃ va vc,vt=.slice va tou.length vc∧tou.length≤vc:=by
  rcases h.tr.2 with ⟨e1,e2⟩|⟨g',cap,cur,e1,-,hg',hn,-⟩
  ·exact ⟨none,0,by rw [e1,e2],by omega⟩
  ·exact ⟨_,cap,e1,hn⟩
 obtain ⟨va,vc,rfl,hle⟩:=hle
 clear h
 obtain ⟨L,hL⟩:∃ L,L=tou.length:=⟨_,rfl⟩
 rw [← hL] at c2 hle HE
 unfold TouchedPost
 rw [← hL]
 clear hL
 go_enter Tryz.func94,Tryz.ntmps94
 go_wp2_with fail
 refine HMd.out.mono ?_
 rintro e w1 ⟨rfl,rfl⟩
 go_wp2_with fail
 refine (clip_any hle w).mono ?_
 rintro e w1 ⟨rfl,rfl⟩
 go_wp2_with fail
 go_ret
 exact ⟨va,vc,rfl,rfl,HE.out.2.1,HE.out.1,HE.out.2.2⟩
end
theorem run_b379 (a:Option Addr) (n c:Nat) (w:World):(Instr.build 154 #[(0,.slice a n c)]).run Tryz.prog w=.ok (.agg #[.slice a n c,.bool false,.slice none 0 0]) w:=by kernel_rfl
theorem and_pred_pow {N:Nat} (h:∃ k,8≤k∧k≤16∧N=2 ^ k):bits .and .i64 (N:Int) ((N:Int) - 1)=0:=by
 obtain ⟨k,h8,h16,rfl⟩:=h
 have:k=8 ∨ k=9 ∨ k=10 ∨ k=11 ∨ k=12 ∨ k=13 ∨ k=14 ∨ k=15 ∨ k=16:=by omega
 rcases this with rfl|rfl|rfl|rfl|rfl|rfl|rfl|rfl|rfl <;> decide
def FromPost (d:List Nat) (w:World) (e:Ending) (w':World):Prop :=
 ∃ p g c,e=.returned (.tuple #[.pointer (some ⟨p,0,none⟩),.int .i64 0])∧w.heap.size≤p∧w.heap.size≤g∧MemAt w' p g c d.length (.slice none 0 0) d false []∧Below w.heap.size w w'
theorem from_mem {w:World} {v:Value} {d:List Nat} (hb:Bytes w v d) (hk:∃ k,8≤k∧k≤16∧d.length=2 ^ k):Calls Tryz.prog 43 #[v] w (FromPost d w):=by
 have hf:=run_b379
 have hand:=and_pred_pow hk
 have HBy:=Lib.hid hb
 have hN:256≤d.length∧d.length≤65536:=by
  obtain ⟨k,h8,h16,hk⟩:=hk
  have:k=8 ∨ k=9 ∨ k=10 ∨ k=11 ∨ k=12 ∨ k=13 ∨ k=14 ∨ k=15 ∨ k=16:=by omega
  rcases this with rfl|rfl|rfl|rfl|rfl|rfl|rfl|rfl|rfl <;> rw [hk] <;> decide
 have HK:=Lib.hid hk
 have HRd:=Lib.hid hb.1
 obtain ⟨va,vc,rfl,hvn,hvm,hva,hvp⟩:=hb.opened
 unfold FromPost
 obtain ⟨N,hN1⟩:∃ N,N=d.length:=⟨_,rfl⟩
 rw [← hN1] at hand hN HBy HRd ⊢
 have h1:¬ (N:Int)<256:=by omega
 have h2:¬ (65536:Int)<(N:Int):=by omega
 have hw:IntKind.i64.wrap ((N:Int) - 1)=(N:Int) - 1:=IntWalk.i64_in _ (by omega)
 have HN:=Lib.hid hN
 have HN1:=Lib.hid hN1
 clear hb hk hvp hva hvn hN1 hN
 go_enter Tryz.func43,Tryz.ntmps43
 go_wp2_with fail
 refine (cloneB_any _ N (encN .u8 d) (by have:=HN.out;omega) (encN_one .u8 d) w HRd.out).mono ?_
 rintro e w2 ⟨v,rfl,ho,hb2⟩
 obtain ⟨g,cp,rfl,hnc,hcm,hg,-⟩:=own_form (own_base ho) (by have:=HN.out;omega)
 have hgb:w.heap.size≤g:=(ho.lt g rfl).1
 have HO:=Lib.hid ho
 have HB:=Lib.hid hb2
 clear ho hb2 h1 h2
 go_wp2_with fail
 go_ret2
 refine ⟨w2.heap.size,g,cp,rfl,HB.out.size,hgb,⟨heap_alloc_new _ _,own_base (own_below HO.out (Bel.new _ _)),World.ownsRow_nil _ _ _ _,HN1.out.symm,?_,HBy.out.2,by simp⟩,HB.out.alloc HB.out.size _⟩
 rw [HN1.out];exact HK.out
section
variable {w:World} {b:Nat} {cs:Array Value}
theorem mpop_any (h:w.heap[b]?=some (.cells cs 85 (0,0))) {g n cap:Nat} {x:Int} (hs:cs[69]?=some (.slice (some ⟨g,0,none⟩) (n+1) cap)) (hc:n+1≤cap) (hn:n≤65536) (hx:w.cell? ⟨g,n,none⟩=some (.int .u32 x)) :
 Calls Tryz.prog 119 #[.pointer (some ⟨b,0,none⟩)] w fun e w'=>e=.returned (.int .u32 x)∧w'=w.setCell ⟨b,69,none⟩ (.slice (some ⟨g,0,none⟩) n cap):=by
 have h1:=(cell_of_row w b 69 _ _ _ h).trans hs
 have hf:=frozen_of_row w b 69 _ _ h
 have e1:(((n+1:Nat):Int)) - 1=(n:Int):=by omega
 have hw:IntKind.i64.wrap (n:Int)=(n:Int):=IntWalk.i64_in _ (by omega)
 have hlt:(n:Int)<((n+1:Nat):Int):=by omega
 have hle:(n:Int)≤(cap:Int):=by omega
 clear h hs
 go_enter Tryz.func119,Tryz.ntmps119
 go_wp2_with fail
 go_ret
 exact ⟨rfl,rfl⟩
theorem row_not {B e sz n:Nat} {v:Value} {xs:List Value} (ho:w.ownsRow B e sz v n xs) (h:w.heap[b]?=some (.cells cs 85 (0,0))) (he:e≠85):v.ownBlock≠some b:=fun e0=>by
 rcases ho.2 with ⟨e1,-⟩|⟨g',cap,cur,e1,-,hg',-⟩
 ·rw [e1] at e0;cases e0
 ·rw [e1] at e0;cases e0
  rw [h] at hg'
  simp at hg'
  exact he hg'.2.symm
theorem mpush_any (h:w.heap[b]?=some (.cells cs 85 (0,0))) {v:Value} {ops:List Nat} {x:Nat} (hs:cs[69]?=some v) (hv:w.ownsRow 0 25 1 v ops.length (encN .u32 ops)) (hn:ops.length≤65536) :
 Calls Tryz.prog 123 #[.pointer (some ⟨b,0,none⟩),.int .u32 x] w fun e w'=>e=.returned (.tuple #[])∧∃ v' w9,Grew w w9 v v'∧w9.ownsRow 0 25 1 v' (ops.length+1) (encN .u32 (ops++[x]))∧w9.heap[b]?=some (.cells cs 85 (0,0))∧w'=w9.setCell ⟨b,69,none⟩ v':=by
 obtain ⟨i25,hi25,hi250,hi251,hi252⟩:=info_parts inf25
 have hbs:=bs23_1
 have h1:=(cell_of_row w b 69 _ _ _ h).trans hs
 have HSt:=Lib.hid (fun (w9:World) (v9:Value) (hg:Grew w w9 v v9)=>((hg.1.block b (Array.getElem?_eq_some_iff.1 h).1 (fun e=>row_not hv h (by decide) e.symm)).trans h:w9.heap[b]?=some (.cells cs 85 (0,0))))
 have HRow:=Lib.hid (own_base hv)
 obtain ⟨n,hnn⟩:∃ n,n=ops.length:=⟨_,rfl⟩
 rw [← hnn] at HRow hn hv ⊢
 obtain ⟨va,vc,rfl,-⟩:=own_sl hv
 have hL63:n+1≤65537:=by omega
 clear h hv hnn
 have HCs:=Lib.hid hs
 clear hs
 go_enter Tryz.func123,Tryz.ntmps123
 go_wp2_with ((with_reducible refine wpList_append1B (o:=⟨some 11,.call { callee:=.builtin .append,args:=#[.tmp 8,.tmp 10],argTypes:=#[23,23] },_,_,_,none⟩) rfl _ _ 23 rfl 25 i25 (.int .u32 0) 1 4 Tryz.underlying23 hi25 hi250 hi251 hi252 ?_ ?_ _ _ _ HRow.out _ _ w.heap.size ?_ ?_ ?_ ?_ ?_ ?_ ?_ ?_);rfl;decide;rfl;rfl;rfl;rfl;(simp [Value.oneCell']);(unfold maxLen;omega);omega;intro g9 c9 w9 o9 r9 hl9;have hp9:=HSt.out _ _ r9;have d1:=(cell_of_row w9 b 69 _ _ _ hp9).trans HCs.out;have df:=frozen_of_row w9 b 69 _ _ hp9;have HP9:=Lib.hid hp9;have HR9:=Lib.hid r9;have HO9:=Lib.hid o9;clear h1 hp9 r9 o9)
 go_end0
 exact ⟨rfl,_,w9,HR9.out,by rw [encN_append];exact HO9.out,HP9.out,rfl⟩
end
structure MacK where
 md:Value
 gate:Value
 code:Value
 acts:Nat→Value
 floor:Nat
 top:Nat
 mem:Value
structure MacV where
 life:Nat
 pc:Nat
 sp:Nat
 ops:Value
 value:Nat
 fault:Nat
 on:Bool
 log:Value
 replies:Value
 events:Value
structure MacRow (cs:Array Value) (K:MacK) (V:MacV):Prop where
 size:cs.size=76
 c0:cs[0]?=some K.md
 c1:cs[1]?=some K.gate
 c2:cs[2]?=some K.code
 acts:∀ i,i<60→cs[3+i]?=some (K.acts i)
 c63:cs[63]?=some (.int .u32 K.floor)
 c64:cs[64]?=some (.int .u32 K.top)
 c65:cs[65]?=some K.mem
 c66:cs[66]?=some (.int .u8 V.life)
 c67:cs[67]?=some (.int .u32 V.pc)
 c68:cs[68]?=some (.int .u32 V.sp)
 c69:cs[69]?=some V.ops
 c70:cs[70]?=some (.int .u32 V.value)
 c71:cs[71]?=some (.int .u8 V.fault)
 c72:cs[72]?=some (.bool V.on)
 c73:cs[73]?=some V.log
 c74:cs[74]?=some V.replies
 c75:cs[75]?=some V.events
section
variable {cs:Array Value} {K:MacK} {V:MacV}
theorem MacRow.set (h:MacRow cs K V) (i:Nat) (v:Value) (V':MacV) (hi:66≤i) (hj:i<76)
 (h66:(if i=66 then some v else some (.int .u8 V.life))=some (.int .u8 V'.life))
 (h67:(if i=67 then some v else some (.int .u32 V.pc))=some (.int .u32 V'.pc))
 (h68:(if i=68 then some v else some (.int .u32 V.sp))=some (.int .u32 V'.sp))
 (h69:(if i=69 then some v else some V.ops)=some V'.ops)
 (h70:(if i=70 then some v else some (.int .u32 V.value))=some (.int .u32 V'.value))
 (h71:(if i=71 then some v else some (.int .u8 V.fault))=some (.int .u8 V'.fault))
 (h72:(if i=72 then some v else some (.bool V.on))=some (.bool V'.on))
 (h73:(if i=73 then some v else some V.log)=some V'.log)
 (h74:(if i=74 then some v else some V.replies)=some V'.replies)
 (h75:(if i=75 then some v else some V.events)=some V'.events):MacRow (cs.setIfInBounds i v) K V':=by
 have hs:=h.size
 have hg:∀ (j:Nat) (x:Value),cs[j]?=some x→(cs.setIfInBounds i v)[j]?=if i=j then some v else some x:=fun j x hx=>by
  rw [Array.getElem?_setIfInBounds]
  by_cases e:i=j
  ·rw [if_pos e,if_pos e,if_pos (by omega)]
  ·rw [if_neg e,if_neg e,hx]
 exact ⟨by simpa using hs,(hg 0 _ h.c0).trans (if_neg (by omega)),(hg 1 _ h.c1).trans (if_neg (by omega)),(hg 2 _ h.c2).trans (if_neg (by omega)),
  fun k hk=>(hg _ _ (h.acts k hk)).trans (if_neg (by omega)),(hg 63 _ h.c63).trans (if_neg (by omega)),(hg 64 _ h.c64).trans (if_neg (by omega)),(hg 65 _ h.c65).trans (if_neg (by omega)),
  (hg 66 _ h.c66).trans h66,(hg 67 _ h.c67).trans h67,(hg 68 _ h.c68).trans h68,(hg 69 _ h.c69).trans h69,(hg 70 _ h.c70).trans h70,(hg 71 _ h.c71).trans h71,
  (hg 72 _ h.c72).trans h72,(hg 73 _ h.c73).trans h73,(hg 74 _ h.c74).trans h74,(hg 75 _ h.c75).trans h75⟩
theorem MacRow.setPc (h:MacRow cs K V) (x:Nat):MacRow (cs.setIfInBounds 67 (.int .u32 x)) K { V with pc:=x }:=h.set 67 _ _ (by omega) (by omega) rfl rfl rfl rfl rfl rfl rfl rfl rfl rfl
theorem MacRow.setSp (h:MacRow cs K V) (x:Nat):MacRow (cs.setIfInBounds 68 (.int .u32 x)) K { V with sp:=x }:=h.set 68 _ _ (by omega) (by omega) rfl rfl rfl rfl rfl rfl rfl rfl rfl rfl
theorem MacRow.setOps (h:MacRow cs K V) (v:Value):MacRow (cs.setIfInBounds 69 v) K { V with ops:=v }:=h.set 69 _ _ (by omega) (by omega) rfl rfl rfl rfl rfl rfl rfl rfl rfl rfl
theorem MacRow.setLife (h:MacRow cs K V) (x:Nat):MacRow (cs.setIfInBounds 66 (.int .u8 x)) K { V with life:=x }:=h.set 66 _ _ (by omega) (by omega) rfl rfl rfl rfl rfl rfl rfl rfl rfl rfl
theorem MacRow.setValue (h:MacRow cs K V) (x:Nat):MacRow (cs.setIfInBounds 70 (.int .u32 x)) K { V with value:=x }:=h.set 70 _ _ (by omega) (by omega) rfl rfl rfl rfl rfl rfl rfl rfl rfl rfl
theorem MacRow.setFault (h:MacRow cs K V) (x:Nat):MacRow (cs.setIfInBounds 71 (.int .u8 x)) K { V with fault:=x }:=h.set 71 _ _ (by omega) (by omega) rfl rfl rfl rfl rfl rfl rfl rfl rfl rfl
theorem MacRow.setLog (h:MacRow cs K V) (v:Value):MacRow (cs.setIfInBounds 73 v) K { V with log:=v }:=h.set 73 _ _ (by omega) (by omega) rfl rfl rfl rfl rfl rfl rfl rfl rfl rfl
theorem MacRow.setReplies (h:MacRow cs K V) (v:Value):MacRow (cs.setIfInBounds 74 v) K { V with replies:=v }:=h.set 74 _ _ (by omega) (by omega) rfl rfl rfl rfl rfl rfl rfl rfl rfl rfl
theorem MacRow.setEvents (h:MacRow cs K V) (v:Value):MacRow (cs.setIfInBounds 75 v) K { V with events:=v }:=h.set 75 _ _ (by omega) (by omega) rfl rfl rfl rfl rfl rfl rfl rfl rfl rfl
end
def MacB (w:World) (b:Nat) (K:MacK) (V:MacV):Prop:=∃ cs,w.heap[b]?=some (.cells cs 85 (0,0))∧MacRow cs K V
structure MacC (w:World) (b:Nat) (K:MacK) (V:MacV):Prop where
 c1:w.cell? ⟨b,1,none⟩=some K.gate
 c2:w.cell? ⟨b,2,none⟩=some K.code
 c63:w.cell? ⟨b,63,none⟩=some (.int .u32 K.floor)
 c64:w.cell? ⟨b,64,none⟩=some (.int .u32 K.top)
 c65:w.cell? ⟨b,65,none⟩=some K.mem
 c66:w.cell? ⟨b,66,none⟩=some (.int .u8 V.life)
 c67:w.cell? ⟨b,67,none⟩=some (.int .u32 V.pc)
 c68:w.cell? ⟨b,68,none⟩=some (.int .u32 V.sp)
 c69:w.cell? ⟨b,69,none⟩=some V.ops
 fz:∀ j,w.frozen? ⟨b,j,none⟩=false
theorem MacB.cells {w:World} {b:Nat} {K:MacK} {V:MacV} (h:MacB w b K V):MacC w b K V:=by
 obtain ⟨cs,h,r⟩:=h
 exact ⟨(cell_of_row w b 1 _ _ _ h).trans r.c1,(cell_of_row w b 2 _ _ _ h).trans r.c2,(cell_of_row w b 63 _ _ _ h).trans r.c63,(cell_of_row w b 64 _ _ _ h).trans r.c64,(cell_of_row w b 65 _ _ _ h).trans r.c65,
  (cell_of_row w b 66 _ _ _ h).trans r.c66,(cell_of_row w b 67 _ _ _ h).trans r.c67,(cell_of_row w b 68 _ _ _ h).trans r.c68,(cell_of_row w b 69 _ _ _ h).trans r.c69,fun j=>frozen_of_row w b j _ _ h⟩
theorem MacB.fr {w w':World} {b:Nat} {K:MacK} {V:MacV} {F F':Nat→Prop} (h:MacB w b K V) (hf:Fr w w' F F') (hn:¬ F b):MacB w' b K V:=by
 obtain ⟨cs,h,r⟩:=h
 exact ⟨cs,hf.row h hn,r⟩
theorem MacB.setPc {w:World} {b:Nat} {K:MacK} {V:MacV} (h:MacB w b K V) (x:Nat):MacB (w.setCell ⟨b,67,none⟩ (.int .u32 x)) b K { V with pc:=x }:=by
 obtain ⟨cs,h,r⟩:=h
 exact ⟨_,heap_setCell_same w b 67 _ _ _ h,r.setPc x⟩
theorem MacB.setOps {w:World} {b:Nat} {K:MacK} {V:MacV} (h:MacB w b K V) (v:Value):MacB (w.setCell ⟨b,69,none⟩ v) b K { V with ops:=v }:=by
 obtain ⟨cs,h,r⟩:=h
 exact ⟨_,heap_setCell_same w b 69 _ _ _ h,r.setOps v⟩
theorem MacB.lt {w:World} {b:Nat} {K:MacK} {V:MacV} (h:MacB w b K V):b<w.heap.size:=by
 obtain ⟨cs,h,r⟩:=h
 exact (Array.getElem?_eq_some_iff.1 h).1
section
variable {w:World} {b:Nat} {K:MacK} {V:MacV}
theorem nop_act (h:MacB w b K V) (hp:V.pc<4294967295) (o a:Nat) :
 Calls Tryz.prog 71 #[.pointer (some ⟨b,0,none⟩),.agg #[.int .u8 o,.int .u32 a]] w fun e w'=>e=.returned (.tuple #[])∧MacB w' b K { V with pc:=V.pc+1 }∧Fr w w' (fun x=>x=b) (fun x=>x=b):=by
 have HB:=Lib.hid h
 have c67:=h.cells.c67
 have cf:=h.cells.fz
 have hlt:=h.lt
 have hw:IntKind.u32.wrap ((V.pc:Int)+1)=(V.pc:Int)+1:=by rw [IntKind.wrap_u32];omega
 clear h
 go_enter Tryz.func71,Tryz.ntmps71
 go_wp2_with fail
 go_end0
 refine ⟨rfl,?_,(Fr.setCell w (F:=fun x=>x=b) (a:=⟨b,67,none⟩) rfl _).trans (Fr.of (Bel.new _ _) _)⟩
 have:=(HB.out.setPc (V.pc+1)).fr (Fr.of (Bel.new _ (.cells #[.int .u8 o,.int .u32 a] 106)) (fun _=>False)) id
 simpa using this
theorem goto_act (h:MacB w b K V) (o a:Nat) :
 Calls Tryz.prog 76 #[.pointer (some ⟨b,0,none⟩),.agg #[.int .u8 o,.int .u32 a]] w fun e w'=>e=.returned (.tuple #[])∧MacB w' b K { V with pc:=a }∧Fr w w' (fun x=>x=b) (fun x=>x=b):=by
 have HB:=Lib.hid h
 have c67:=h.cells.c67
 have cf:=h.cells.fz
 have hlt:=h.lt
 clear h
 go_enter Tryz.func76,Tryz.ntmps76
 go_wp2_with fail
 go_end0
 refine ⟨rfl,?_,(Fr.setCell w (F:=fun x=>x=b) (a:=⟨b,67,none⟩) rfl _).trans (Fr.of (Bel.new _ _) _)⟩
 exact (HB.out.setPc a).fr (Fr.of (Bel.new _ (.cells #[.int .u8 o,.int .u32 a] 106)) (fun _=>False)) id
end
structure OpsAt (w:World) (b:Nat) (K:MacK) (V:MacV) (ops:List Nat):Prop where
 m:MacB w b K V
 o:w.ownsRow 0 25 1 V.ops ops.length (encN .u32 ops)
def opsF (b:Nat) (v:Value):Nat→Prop:=fun k=>k=b ∨ v.ownBlock=some k
section
variable {w:World} {b:Nat} {K:MacK} {V:MacV} {ops:List Nat}
theorem MacB.not_own (h:MacB w b K V) {B e sz n:Nat} {v:Value} {xs:List Value} (ho:w.ownsRow B e sz v n xs) (he:e≠85):v.ownBlock≠some b:=by
 obtain ⟨cs,h,r⟩:=h
 exact row_not ho h he
theorem OpsAt.push (h:OpsAt w b K V ops) (hn:ops.length≤65536) (x:Nat) :
 Calls Tryz.prog 123 #[.pointer (some ⟨b,0,none⟩),.int .u32 x] w fun e w'=>e=.returned (.tuple #[])∧∃ v',OpsAt w' b K { V with ops:=v' } (ops++[x])∧Fr w w' (opsF b V.ops) (opsF b v'):=by
 obtain ⟨⟨cs,hh,r⟩,ho⟩:=h
 refine (mpush_any hh r.c69 ho hn).mono ?_
 rintro e w' ⟨rfl,v',w9,hg,ho9,hp9,rfl⟩
 have hne:v'.ownBlock≠some b:=row_not ho9 hp9 (by decide)
 refine ⟨rfl,v',⟨⟨_,heap_setCell_same w9 b 69 _ _ _ hp9,r.setOps v'⟩,?_⟩,?_⟩
 ·have:=ownsRow_setCell_other ho9 hne (a:=⟨b,69,none⟩) v'
  simpa using this
 ·refine (Fr.grew (F:=opsF b V.ops) (fun g e=>.inr e) hg (F':=opsF b v') (fun k hk=>hk.elim (fun e=>.inl (.inl e)) .inr)).trans ?_
  exact Fr.setCell w9 (F:=opsF b v') (a:=⟨b,69,none⟩) (.inl rfl) v'
theorem OpsAt.pop {x:Nat} (h:OpsAt w b K V (ops++[x])) (hn:ops.length≤65536) :
 Calls Tryz.prog 119 #[.pointer (some ⟨b,0,none⟩)] w fun e w'=>e=.returned (.int .u32 x)∧∃ v',OpsAt w' b K { V with ops:=v' } ops∧Fr w w' (fun k=>k=b) (fun k=>k=b)∧v'.ownBlock=V.ops.ownBlock:=by
 obtain ⟨⟨cs,hh,r⟩,ho⟩:=h
 rw [List.length_append,List.length_singleton] at ho
 have hne:V.ops.ownBlock≠some b:=row_not ho hh (by decide)
 obtain ⟨hlen,ho2⟩:=ho
 rcases ho2 with ⟨e1,e2⟩|⟨g,cap,cur,hv,hb,hg,hnc,hm,hs,ht⟩
 ·omega
 have hx:w.cell? ⟨g,ops.length,none⟩=some (.int .u32 x):=by
  have e1:(encN .u32 (ops++[x]))[ops.length]?=some (.int .u32 x):=by
   rw [encN_at .u32 _ ops.length (by simp)]
   simp
  rw [cell_of_row w g ops.length cur 25 (0,0) hg,← e1,← ht,List.getElem?_take,if_pos (by omega)]
  simp
 rw [hv] at hne
 refine (mpop_any hh (g:=g) (n:=ops.length) (cap:=cap) (by rw [r.c69,hv]) hnc hn hx).mono ?_
 rintro e w' ⟨rfl,rfl⟩
 refine ⟨rfl,_,⟨⟨_,heap_setCell_same w b 69 _ _ _ hh,r.setOps _⟩,?_⟩,Fr.setCell w (F:=fun k=>k=b) (a:=⟨b,69,none⟩) rfl _,by rw [hv];rfl⟩
 refine ⟨by rw [encN_length];omega,.inr ⟨g,cap,cur,rfl,hb,(Below.heap_setCell _ _ _ _ (fun e=>hne (by rw [e];rfl))).trans hg,by omega,hm,hs,?_⟩⟩
 have e2:cur.toList.take (ops.length * 1)=(cur.toList.take ((ops.length+1) * 1)).take (ops.length * 1):=by rw [List.take_take,Nat.min_eq_left (by omega)]
 rw [e2,ht,encN_append,List.take_append_of_le_length (by rw [encN_length];omega),List.take_of_length_le (by rw [encN_length];omega)]
end
section
variable {w:World} {b:Nat} {K:MacK} {V:MacV} {ops:List Nat}
theorem OpsAt.below {w':World} (h:OpsAt w b K V ops) (hb:Below w.heap.size w w'):OpsAt w' b K V ops:=⟨h.m.fr (Fr.of hb (fun _=>False)) id,own_below h.o hb⟩
theorem OpsAt.setPc (h:OpsAt w b K V ops) (x:Nat):OpsAt (w.setCell ⟨b,67,none⟩ (.int .u32 x)) b K { V with pc:=x } ops:=⟨h.m.setPc x,ownsRow_setCell_other h.o (h.m.not_own h.o (by decide)) _⟩
theorem constant_act (h:OpsAt w b K V ops) (hn:ops.length≤65536) (hp:V.pc<4294967295) (o a:Nat) :
 Calls Tryz.prog 78 #[.pointer (some ⟨b,0,none⟩),.agg #[.int .u8 o,.int .u32 a]] w fun e w'=>e=.returned (.tuple #[])∧∃ v',OpsAt w' b K { V with ops:=v',pc:=V.pc+1 } (ops++[a])∧Fr w w' (opsF b V.ops) (opsF b v'):=by
 have HP:=Lib.hid ((h.below (Bel.new w (.cells #[.int .u8 o,.int .u32 a] 106))).push hn a)
 have hw:IntKind.u32.wrap ((V.pc:Int)+1)=(V.pc:Int)+1:=by rw [IntKind.wrap_u32];omega
 clear h
 go_enter Tryz.func78,Tryz.ntmps78
 go_wp2_with fail
 refine HP.out.mono ?_
 rintro e w1 ⟨rfl,v',ho,hf⟩
 have HO:=Lib.hid ho
 have HF:=Lib.hid hf
 have c67:=ho.m.cells.c67
 have cf:=ho.m.cells.fz
 clear ho hf
 simp only at c67
 go_wp2_with fail
 go_end0
 refine ⟨rfl,v',?_,((Fr.of (Bel.new _ _) _).trans HF.out).trans (Fr.setCell w1 (F:=opsF b v') (a:=⟨b,67,none⟩) (.inl rfl) _)⟩
 have:=HO.out.setPc (V.pc+1)
 simpa using this
theorem drop_act {x:Nat} (h:OpsAt w b K V (ops++[x])) (hn:ops.length≤65536) (hp:V.pc<4294967295) (o a:Nat) :
 Calls Tryz.prog 80 #[.pointer (some ⟨b,0,none⟩),.agg #[.int .u8 o,.int .u32 a]] w fun e w'=>e=.returned (.tuple #[])∧∃ v',OpsAt w' b K { V with ops:=v',pc:=V.pc+1 } ops∧Fr w w' (fun k=>k=b) (fun k=>k=b)∧v'.ownBlock=V.ops.ownBlock:=by
 have HP:=Lib.hid ((h.below (Bel.new w (.cells #[.int .u8 o,.int .u32 a] 106))).pop hn)
 have hw:IntKind.u32.wrap ((V.pc:Int)+1)=(V.pc:Int)+1:=by rw [IntKind.wrap_u32];omega
 clear h
 go_enter Tryz.func80,Tryz.ntmps80
 go_wp2_with fail
 refine HP.out.mono ?_
 rintro e w1 ⟨rfl,v',ho,hf,hv⟩
 have HO:=Lib.hid ho
 have HF:=Lib.hid hf
 have HV:=Lib.hid hv
 have c67:=ho.m.cells.c67
 have cf:=ho.m.cells.fz
 clear ho hf hv
 simp only at c67
 go_wp2_with fail
 go_end0
 refine ⟨rfl,v',?_,((Fr.of (Bel.new _ _) _).trans HF.out).trans (Fr.setCell w1 (F:=fun k=>k=b) (a:=⟨b,67,none⟩) rfl _),HV.out⟩
 have:=HO.out.setPc (V.pc+1)
 simpa using this
end
section
variable {w:World} {b:Nat} {K:MacK} {V:MacV} {ops:List Nat}
theorem local_act (h:OpsAt w b K V ops) (hn:ops.length≤65536) (hp:V.pc<4294967295) (o a:Nat) :
 Calls Tryz.prog 79 #[.pointer (some ⟨b,0,none⟩),.agg #[.int .u8 o,.int .u32 a]] w fun e w'=>e=.returned (.tuple #[])∧∃ v',OpsAt w' b K { V with ops:=v',pc:=V.pc+1 } (ops++[(V.sp+a) % 4294967296])∧Fr w w' (opsF b V.ops) (opsF b v'):=by
 have hmx:Tryz.prog.follows .mixedOrders=true:=by kernel_rfl
 obtain ⟨W1,hW1⟩:∃ W1,W1=w.alloc (.cells #[.int .u8 o,.int .u32 a] 106):=⟨_,rfl⟩
 have hb1:Below w.heap.size w W1:=by rw [hW1];exact Bel.new _ _
 have hh1:W1.heap[w.heap.size]?=some (.cells #[.int .u8 o,.int .u32 a] 106 (0,0)):=by rw [hW1];exact heap_alloc_new _ _
 have d1:=cell_of_row W1 w.heap.size 1 _ _ _ hh1
 have c68:=(h.below hb1).m.cells.c68
 have HP:=Lib.hid (((h.below hb1).below (Below.refl _ _).drew).push hn ((V.sp+a) % 4294967296))
 have HB1:=Lib.hid hb1
 have hw:IntKind.u32.wrap ((V.pc:Int)+1)=(V.pc:Int)+1:=by rw [IntKind.wrap_u32];omega
 have hw2:IntKind.u32.wrap ((V.sp:Int)+(a:Int))=(((V.sp+a) % 4294967296:Nat):Int):=by rw [IntKind.wrap_u32];omega
 clear h hb1 hh1
 generalize (V.sp+a) % 4294967296=q at *
 go_enter Tryz.func79,Tryz.ntmps79
 go_wp2_with fail
 rw [← hW1]
 clear hW1
 refine wp_region_still_tail 8 hmx (by kernel_rfl) ?_
 simp only [List.take_succ_cons,List.take_zero,List.drop_succ_cons,List.drop_zero]
 repeat still_step
 refine wpStill_nil ?_
 change wpList _ _ _ _ _ W1.drew
 go_wp2_with fail
 refine HP.out.mono ?_
 rintro e w1 ⟨rfl,v',ho,hf⟩
 have HO:=Lib.hid ho
 have HF:=Lib.hid hf
 have c67:=ho.m.cells.c67
 have cf:=ho.m.cells.fz
 clear ho hf
 simp only at c67
 go_wp2_with fail
 go_end0
 refine ⟨rfl,v',?_,(((Fr.of HB1.out _).drew).trans HF.out).trans (Fr.setCell w1 (F:=opsF b v') (a:=⟨b,67,none⟩) (.inl rfl) _)⟩
 have:=HO.out.setPc (V.pc+1)
 simpa using this
theorem OpsAt.top {x:Nat} (h:OpsAt w b K V (ops++[x])):∃ g cap,V.ops=.slice (some ⟨g,0,none⟩) (ops.length+1) cap∧w.cell? ⟨g,ops.length,none⟩=some (.int .u32 x):=by
 have ho:=h.o
 rw [List.length_append,List.length_singleton] at ho
 obtain ⟨g,cap,hv,-,-,-,hc⟩:=own_form ho (by omega)
 refine ⟨g,cap,hv,?_⟩
 rw [hc ops.length (by rw [encN_length];simp),encN_at .u32 _ ops.length (by simp)]
 simp
theorem dup_act {x:Nat} (h:OpsAt w b K V (ops++[x])) (hn:ops.length+1≤65536) (hp:V.pc<4294967295) (o a:Nat) :
 Calls Tryz.prog 81 #[.pointer (some ⟨b,0,none⟩),.agg #[.int .u8 o,.int .u32 a]] w fun e w'=>e=.returned (.tuple #[])∧∃ v',OpsAt w' b K { V with ops:=v',pc:=V.pc+1 } (ops++[x]++[x])∧Fr w w' (opsF b V.ops) (opsF b v'):=by
 have hmx:Tryz.prog.follows .mixedOrders=true:=by kernel_rfl
 obtain ⟨W1,hW1⟩:∃ W1,W1=w.alloc (.cells #[.int .u8 o,.int .u32 a] 106):=⟨_,rfl⟩
 have hb1:Below w.heap.size w W1:=by rw [hW1];exact Bel.new _ _
 have HP:=Lib.hid (((h.below hb1).below (Below.refl _ _).drew).push (by rw [List.length_append,List.length_singleton];exact hn) x)
 obtain ⟨g,cap,hv,hx⟩:=(h.below hb1).top
 have c69:=(h.below hb1).m.cells.c69
 rw [hv] at c69
 have HV:=Lib.hid hv
 have HB1:=Lib.hid hb1
 obtain ⟨n,hnn⟩:∃ n,n=ops.length:=⟨_,rfl⟩
 rw [← hnn] at c69 hx hn
 have e1:(((n+1:Nat):Int)) - 1=(n:Int):=by omega
 have hw1:IntKind.i64.wrap (n:Int)=(n:Int):=IntWalk.i64_in _ (by omega)
 have hlt:(n:Int)<(n:Int)+1:=by omega
 have hlt2:n<n+1:=by omega
 have hn0:(0:Int)≤(n:Int):=by omega
 have hw:IntKind.u32.wrap ((V.pc:Int)+1)=(V.pc:Int)+1:=by rw [IntKind.wrap_u32];omega
 clear h hb1 hv hnn
 go_enter Tryz.func81,Tryz.ntmps81
 go_wp2_with fail
 rw [← hW1]
 clear hW1
 refine wp_region_still_tail 13 hmx (by kernel_rfl) ?_
 simp only [List.take_succ_cons,List.take_zero,List.drop_succ_cons,List.drop_zero]
 repeat still_step
 refine wpStill_nil ?_
 change wpList _ _ _ _ _ W1.drew
 go_wp2_with fail
 refine HP.out.mono ?_
 rintro e w1 ⟨rfl,v',ho,hf⟩
 have HO:=Lib.hid ho
 have HF:=Lib.hid hf
 have c67:=ho.m.cells.c67
 have cf:=ho.m.cells.fz
 clear ho hf
 simp only at c67
 go_wp2_with fail
 go_end0
 refine ⟨rfl,v',?_,(((Fr.of HB1.out _).drew).trans HF.out).trans (Fr.setCell w1 (F:=opsF b v') (a:=⟨b,67,none⟩) (.inl rfl) _)⟩
 have:=HO.out.setPc (V.pc+1)
 simpa using this
end
structure MacR where
 on:Bool
 log:Value
 replies:Value
 events:Value
def macV (s:St) (vo:Value) (R:MacR):MacV:=⟨s.life,s.pc,s.sp,vo,s.value,s.fault,R.on,R.log,R.replies,R.events⟩
structure MemK where
 p:Nat
 g:Nat
 c:Nat
 N:Nat
structure Mach (w:World) (b:Nat) (K:MacK) (s:St) (vo:Value) (R:MacR) (M:MemK) (vt:Value) (logs:Bool) (tou:List (Nat×Bool)):Prop where
 o:OpsAt w b K (macV s vo R) s.ops
 mem:MemAt w M.p M.g M.c M.N vt s.data logs tou
 km:K.mem=.pointer (some ⟨M.p,0,none⟩)
def machF (b:Nat) (vo:Value) (M:MemK) (vt:Value):Nat→Prop:=fun k=>opsF b vo k ∨ memF M.p M.g vt k
theorem not_row_of {w:World} {b:Nat} {cs:Array Value} {t:Nat} {B e sz n:Nat} {v:Value} {xs:List Value} (ho:w.ownsRow B e sz v n xs) (h:w.heap[b]?=some (.cells cs t (0,0))) (he:e≠t):v.ownBlock≠some b:=fun e0=>by
 rcases ho.2 with ⟨e1,-⟩|⟨g',cap,cur,e1,-,hg',-⟩
 ·rw [e1] at e0;cases e0
 ·rw [e1] at e0;cases e0
  rw [h] at hg'
  simp at hg'
  exact he hg'.2.symm
section
variable {w:World} {b:Nat} {K:MacK} {s:St} {vo:Value} {R:MacR} {M:MemK} {vt:Value} {logs:Bool} {tou:List (Nat×Bool)}
theorem ops_mem_apart {V:MacV} {ops:List Nat} {d:List Nat} (h:OpsAt w b K V ops) (hm:MemAt w M.p M.g M.c M.N vt d logs tou):∀ k,memF M.p M.g vt k→¬ opsF b V.ops k:=by
 obtain ⟨⟨cs,hb,-⟩,ho⟩:=h
 have hg:∀ k,k=M.g→k≠b:=fun k e e2=>by
  have:=not_row_of hm.row hb (by decide)
  exact this (by rw [← e2,e];rfl)
 intro k hk hf
 rcases hk with rfl|rfl|hk
 ·rcases hf with rfl|hf
  ·have:=hm.hp
   rw [hb] at this
   simp at this
  ·exact not_row_of ho hm.hp (by decide) hf
 ·rcases hf with e|hf
  ·exact hg _ rfl e
  ·exact own_apart ho hm.row (by decide) _ hf rfl
 ·rcases hf with rfl|hf
  ·exact not_row_of hm.tr hb (by decide) hk
  ·exact own_apart ho hm.tr (by decide) _ hf hk
theorem MemAt.flt {p g c N:Nat} {d:List Nat} (h:MemAt w p g c N vt d logs tou):∀ k,memF p g vt k→k<w.heap.size:=by
 rintro k (rfl|rfl|hk)
 ·exact h.plt
 ·exact h.glt
 ·exact (h.tr.lt k hk).2
theorem Mach.lt (h:Mach w b K s vo R M vt logs tou):b<w.heap.size:=h.o.m.lt
theorem Mach.lift {w':World} {s':St} {vo':Value} {R':MacR} (h:Mach w b K s vo R M vt logs tou) (ho:OpsAt w' b K (macV s' vo' R') s'.ops) (hd:s'.data=s.data) {F':Nat→Prop} (hf:Fr w w' (opsF b vo) F') :
 Mach w' b K s' vo' R' M vt logs tou:=by
 refine ⟨ho,?_,h.km⟩
 rw [hd]
 exact h.mem.fr hf (ops_mem_apart h.o h.mem)
theorem Mach.liftM {w':World} {d:List Nat} {vt':Value} {logs':Bool} {tou':List (Nat×Bool)} (h:Mach w b K s vo R M vt logs tou) (hm:MemAt w' M.p M.g M.c M.N vt' d logs' tou') {F':Nat→Prop} (hf:Fr w w' (memF M.p M.g vt) F') :
 Mach w' b K { s with data:=d } vo R M vt' logs' tou':=by
 have ha:=ops_mem_apart h.o h.mem
 refine ⟨⟨h.o.m.fr hf (fun e=>ha b e (.inl rfl)),own_fr h.o.o hf (fun g e e2=>ha g e2 (.inr e))⟩,hm,h.km⟩
theorem Mach.below {w':World} (h:Mach w b K s vo R M vt logs tou) (hb:Below w.heap.size w w'):Mach w' b K s vo R M vt logs tou:=⟨h.o.below hb,h.mem.below hb,h.km⟩
theorem Mach.setPc (h:Mach w b K s vo R M vt logs tou) (x:Nat):Mach (w.setCell ⟨b,67,none⟩ (.int .u32 x)) b K { s with pc:=x } vo R M vt logs tou :=
 h.lift (s':={ s with pc:=x }) (h.o.setPc x) rfl (Fr.setCell w (F:=opsF b vo) (a:=⟨b,67,none⟩) (.inl rfl) _)
theorem MacB.setSp {V:MacV} (h:MacB w b K V) (x:Nat):MacB (w.setCell ⟨b,68,none⟩ (.int .u32 x)) b K { V with sp:=x }:=by
 obtain ⟨cs,h,r⟩:=h
 exact ⟨_,heap_setCell_same w b 68 _ _ _ h,r.setSp x⟩
theorem MacB.setLife {V:MacV} (h:MacB w b K V) (x:Nat):MacB (w.setCell ⟨b,66,none⟩ (.int .u8 x)) b K { V with life:=x }:=by
 obtain ⟨cs,h,r⟩:=h
 exact ⟨_,heap_setCell_same w b 66 _ _ _ h,r.setLife x⟩
theorem MacB.setValue {V:MacV} (h:MacB w b K V) (x:Nat):MacB (w.setCell ⟨b,70,none⟩ (.int .u32 x)) b K { V with value:=x }:=by
 obtain ⟨cs,h,r⟩:=h
 exact ⟨_,heap_setCell_same w b 70 _ _ _ h,r.setValue x⟩
theorem MacB.setFault {V:MacV} (h:MacB w b K V) (x:Nat):MacB (w.setCell ⟨b,71,none⟩ (.int .u8 x)) b K { V with fault:=x }:=by
 obtain ⟨cs,h,r⟩:=h
 exact ⟨_,heap_setCell_same w b 71 _ _ _ h,r.setFault x⟩
theorem Mach.put {w':World} {s':St} {R':MacR} (h:Mach w b K s vo R M vt logs tou) {j:Nat} {v:Value} (hw:w'=w.setCell ⟨b,j,none⟩ v) (hm:MacB w' b K (macV s' vo R')) (ho:s'.ops=s.ops) (hd:s'.data=s.data):Mach w' b K s' vo R' M vt logs tou:=by
 subst hw
 refine h.lift ⟨hm,?_⟩ hd (Fr.setCell w (F:=opsF b vo) (a:=⟨b,j,none⟩) (.inl rfl) v)
 rw [ho]
 exact ownsRow_setCell_other h.o.o (h.o.m.not_own h.o.o (by decide)) _
theorem Mach.setSp (h:Mach w b K s vo R M vt logs tou) (x:Nat):Mach (w.setCell ⟨b,68,none⟩ (.int .u32 x)) b K { s with sp:=x } vo R M vt logs tou:=h.put rfl (h.o.m.setSp x) rfl rfl
theorem Mach.setLife (h:Mach w b K s vo R M vt logs tou) (x:Nat):Mach (w.setCell ⟨b,66,none⟩ (.int .u8 x)) b K { s with life:=x } vo R M vt logs tou:=h.put rfl (h.o.m.setLife x) rfl rfl
theorem Mach.setValue (h:Mach w b K s vo R M vt logs tou) (x:Nat):Mach (w.setCell ⟨b,70,none⟩ (.int .u32 x)) b K { s with value:=x } vo R M vt logs tou:=h.put rfl (h.o.m.setValue x) rfl rfl
theorem Mach.setFault (h:Mach w b K s vo R M vt logs tou) (x:Nat):Mach (w.setCell ⟨b,71,none⟩ (.int .u8 x)) b K { s with fault:=x } vo R M vt logs tou:=h.put rfl (h.o.m.setFault x) rfl rfl
theorem frB (w:World) (b:Nat) (vo:Value) (M:MemK) (vt:Value) (j:Nat) (v:Value):Fr w (w.setCell ⟨b,j,none⟩ v) (machF b vo M vt) (machF b vo M vt):=Fr.setCell w (F:=machF b vo M vt) (a:=⟨b,j,none⟩) (.inl (.inl rfl)) v
theorem frO {w':World} {vo':Value} (h:Fr w w' (opsF b vo) (opsF b vo')) (M:MemK) (vt:Value):Fr w w' (machF b vo M vt) (machF b vo' M vt) :=
 h.mono (fun i e=>.inl e) (fun i e=>e.elim .inr (fun e2=>.inl (.inr e2)))
theorem frM {w':World} {vt':Value} (h:Fr w w' (memF M.p M.g vt) (memF M.p M.g vt')) (b:Nat) (vo:Value):Fr w w' (machF b vo M vt) (machF b vo M vt') :=
 h.mono (fun i e=>.inr e) (fun i e=>e.elim (fun e2=>.inl (.inl e2)) .inr)
theorem frP {w':World} {vo':Value} (h:Fr w w' (fun k=>k=b) (fun k=>k=b)) (hv:vo'.ownBlock=vo.ownBlock) (M:MemK) (vt:Value):Fr w w' (machF b vo M vt) (machF b vo' M vt) :=
 h.mono (fun i e=>.inl (.inl e)) (fun i e=>e.elim (fun e2=>e2.elim .inr (fun e3=>.inl (.inl (.inr (by rw [← hv];exact e3))))) (fun e2=>.inl (.inr e2)))
end
def fltV (f:Nat):List PanicEntry:=[{ v:=.iface 39 (.int .u8 f),recovered:=false }]
def ActOk (b:Nat) (K:MacK) (R:MacR) (M:MemK) (logs:Bool) (tou:List (Nat×Bool)) (vo vt:Value) (w:World) (r:St×List (Nat×Bool)) (e:Ending) (w':World):Prop :=
 e=.returned (.tuple #[])∧∃ vo' vt',Mach w' b K r.1 vo' R M vt' logs (touL logs tou r.2)∧Fr w w' (machF b vo M vt) (machF b vo' M vt')
def ActFlt (b:Nat) (K:MacK) (s:St) (R:MacR) (M:MemK) (logs:Bool) (tou:List (Nat×Bool)) (vo vt:Value) (w:World) (f:Nat) (t:List (Nat×Bool)) (e:Ending) (w':World):Prop :=
 e=.panicked (fltV f)∧∃ vo' vt',MacB w' b K (macV s vo' R)∧w'.ownsRow 0 25 1 vo s.ops.length (encN .u32 s.ops)∧MemAt w' M.p M.g M.c M.N vt' s.data logs (touL logs tou t)∧Fr w w' (machF b vo M vt) (machF b vo M vt')
theorem touL_nil (logs:Bool) {tou:List (Nat×Bool)} (h:tou.length≤65536):touL logs tou []=tou:=by
 cases logs
 ·rfl
 ·unfold touL
  rw [if_pos rfl,List.append_nil,List.take_of_length_le h]
section
variable {w:World} {b:Nat} {K:MacK} {s:St} {vo:Value} {R:MacR} {M:MemK} {vt:Value} {logs:Bool} {tou:List (Nat×Bool)}
theorem pop_of {l:List Nat} (h:1≤l.length):∃ m x,l=m++[x]:=by
 rcases List.eq_nil_or_concat l with rfl|⟨m,x,rfl⟩
 ·simp at h
 ·exact ⟨m,x,by simp⟩
theorem pop2_of {l:List Nat} (h:2≤l.length):∃ m x y,l=m++[x]++[y]:=by
 obtain ⟨m,y,rfl⟩:=pop_of (l:=l) (by omega)
 obtain ⟨m,x,rfl⟩:=pop_of (l:=m) (by simpa using h)
 exact ⟨m,x,y,rfl⟩
theorem topW_one {l:List Nat} {x:Nat} (h:s.ops=l++[x]):topW s 0=x∧s.drops 1=l:=by
 unfold topW St.drops
 rw [h]
 simp
theorem topW_two {l:List Nat} {x y:Nat} (h:s.ops=l++[x]++[y]):topW s 0=y∧topW s 1=x∧s.drops 2=l∧s.drops 1=l++[x]:=by
 unfold topW St.drops
 rw [h]
 refine ⟨by simp,by simp,by simp,?_⟩
 simp only [List.length_append,List.length_singleton,Nat.add_sub_cancel]
 exact List.take_left' (by simp)
end
section
variable {w:World} {b:Nat} {K:MacK} {s:St} {vo:Value} {R:MacR} {M:MemK} {vt:Value} {logs:Bool} {tou:List (Nat×Bool)}
theorem Mach.pop {l:List Nat} {x:Nat} (h:Mach w b K s vo R M vt logs tou) (ho:s.ops=l++[x]) (hn:l.length≤65536) :
 Calls Tryz.prog 119 #[.pointer (some ⟨b,0,none⟩)] w fun e w'=>e=.returned (.int .u32 x)∧∃ vo',Mach w' b K { s with ops:=l } vo' R M vt logs tou∧Fr w w' (machF b vo M vt) (machF b vo' M vt)∧Fr w w' (fun k=>k=b) (fun k=>k=b)∧vo'.ownBlock=vo.ownBlock:=by
 obtain ⟨life,pc,sp,ops,data,value,fault⟩:=s
 simp only at ho
 subst ho
 refine (h.o.pop hn).mono ?_
 rintro e w' ⟨rfl,v',ho,hf,hv⟩
 exact ⟨rfl,v',h.lift (s':=⟨life,pc,sp,l,data,value,fault⟩) ho rfl (hf.mono (G1:=fun k=>k=b) (fun i e=>.inl e) (fun i e=>.inl (.inl e))),frP hf hv M vt,hf,hv⟩
theorem Mach.push (h:Mach w b K s vo R M vt logs tou) (hn:s.ops.length≤65536) (x:Nat) :
 Calls Tryz.prog 123 #[.pointer (some ⟨b,0,none⟩),.int .u32 x] w fun e w'=>e=.returned (.tuple #[])∧∃ vo',Mach w' b K { s with ops:=s.ops++[x] } vo' R M vt logs tou∧Fr w w' (machF b vo M vt) (machF b vo' M vt):=by
 refine (h.o.push hn x).mono ?_
 rintro e w' ⟨rfl,v',ho,hf⟩
 exact ⟨rfl,v',h.lift (s':={ s with ops:=s.ops++[x] }) ho rfl hf,frO hf M vt⟩
theorem Mach.c65 (h:Mach w b K s vo R M vt logs tou):w.cell? ⟨b,65,none⟩=some (.pointer (some ⟨M.p,0,none⟩)):=h.km ▸ h.o.m.cells.c65
theorem load1_act {l:List Nat} {x:Nat} (h:Mach w b K s vo R M vt logs tou) (ho:s.ops=l++[x]) (hx:x<4294967296) (hn:l.length≤65535) (hp:s.pc<4294967295) (o a:Nat) :
 Calls Tryz.prog 83 #[.pointer (some ⟨b,0,none⟩),.agg #[.int .u8 o,.int .u32 a]] w (ActOk b K R M logs tou vo vt w ({ s with ops:=l++[loadN s.data x 1],pc:=s.pc+1 },touN M.N x 1 false)):=by
 have hmx:Tryz.prog.follows .mixedOrders=true:=by kernel_rfl
 obtain ⟨W1,hW1⟩:∃ W1,W1=w.alloc (.cells #[.int .u8 o,.int .u32 a] 106):=⟨_,rfl⟩
 have hb1:Below w.heap.size w W1:=by rw [hW1];exact Bel.new _ _
 have H1:=(h.below hb1).below (Below.refl _ _).drew
 have c65:=(h.below hb1).c65
 have HP:=Lib.hid (H1.pop ho (by omega))
 have HB1:=Lib.hid hb1
 have hw:IntKind.u32.wrap ((s.pc:Int)+1)=(s.pc:Int)+1:=by rw [IntKind.wrap_u32];omega
 clear h hb1 H1 ho
 go_enter Tryz.func83,Tryz.ntmps83
 go_wp2_with fail
 rw [← hW1]
 clear hW1
 first|(go_region_held3 (fun W=>W.cell? ⟨b,65,none⟩=some (.pointer (some ⟨M.p,0,none⟩)))
  (first|assumption)
  (first
   | (go_at_call 119;refine HP.out.mono ?_;rintro e w2 ⟨rfl,vo2,m2,f2,-,-⟩;have d65:=m2.c65;have HL:=Lib.hid (load1_mem m2.mem hx);have HM2:=Lib.hid m2;have HF2:=Lib.hid f2;clear m2 f2)
   | (go_at_call 124;refine HL.out.mono ?_;rintro e w3 ⟨rfl,vt3,m3,f3⟩;have hm3:=HM2.out.liftM m3 f3;have e65:=hm3.c65;have HU:=Lib.hid (hm3.push (show l.length≤65536 by omega) (loadN s.data x 1));have HF3:=Lib.hid (frM f3 b vo2);clear hm3 m3 f3)
   | (go_at_call 123; refine HU.out.mono ?_; rintro e w4 ⟨rfl, vo4, m4, f4⟩; have g65 := m4.c65; have HM4 := Lib.hid m4; have HF4 := Lib.hid f4; clear m4 f4))) | fail "held"
 have c67:=HM4.out.o.m.cells.c67
 have cf:=HM4.out.o.m.cells.fz
 simp only [macV] at c67
 go_wp2_with fail
 go_end0
 have:=HM4.out.setPc (s.pc+1)
 refine ⟨rfl,vo4,vt3,by simpa using this,?_⟩
 exact ((((Fr.of HB1.out _).drew.trans HF2.out).trans HF3.out).trans HF4.out).trans (frB w4 b vo4 M vt3 67 _)
theorem load2_act {l:List Nat} {x:Nat} (h:Mach w b K s vo R M vt logs tou) (ho:s.ops=l++[x]) (hx:x<4294967296) (hn:l.length≤65535) (hp:s.pc<4294967295) (o a:Nat) :
 Calls Tryz.prog 84 #[.pointer (some ⟨b,0,none⟩),.agg #[.int .u8 o,.int .u32 a]] w (ActOk b K R M logs tou vo vt w ({ s with ops:=l++[loadN s.data x 2],pc:=s.pc+1 },touN M.N x 2 false)):=by
 have hmx:Tryz.prog.follows .mixedOrders=true:=by kernel_rfl
 obtain ⟨W1,hW1⟩:∃ W1,W1=w.alloc (.cells #[.int .u8 o,.int .u32 a] 106):=⟨_,rfl⟩
 have hb1:Below w.heap.size w W1:=by rw [hW1];exact Bel.new _ _
 have H1:=(h.below hb1).below (Below.refl _ _).drew
 have c65:=(h.below hb1).c65
 have HP:=Lib.hid (H1.pop ho (by omega))
 have HB1:=Lib.hid hb1
 have hw:IntKind.u32.wrap ((s.pc:Int)+1)=(s.pc:Int)+1:=by rw [IntKind.wrap_u32];omega
 clear h hb1 H1 ho
 go_enter Tryz.func84,Tryz.ntmps84
 go_wp2_with fail
 rw [← hW1]
 clear hW1
 first|(go_region_held3 (fun W=>W.cell? ⟨b,65,none⟩=some (.pointer (some ⟨M.p,0,none⟩)))
  (first|assumption)
  (first
   | (go_at_call 119;refine HP.out.mono ?_;rintro e w2 ⟨rfl,vo2,m2,f2,-,-⟩;have d65:=m2.c65;have HL:=Lib.hid (load2_mem m2.mem hx);have HM2:=Lib.hid m2;have HF2:=Lib.hid f2;clear m2 f2)
   | (go_at_call 125;refine HL.out.mono ?_;rintro e w3 ⟨rfl,vt3,m3,f3⟩;have hm3:=HM2.out.liftM m3 f3;have e65:=hm3.c65;have HU:=Lib.hid (hm3.push (show l.length≤65536 by omega) (loadN s.data x 2));have HF3:=Lib.hid (frM f3 b vo2);clear hm3 m3 f3)
   | (go_at_call 123; refine HU.out.mono ?_; rintro e w4 ⟨rfl, vo4, m4, f4⟩; have g65 := m4.c65; have HM4 := Lib.hid m4; have HF4 := Lib.hid f4; clear m4 f4))) | fail "held"
 have c67:=HM4.out.o.m.cells.c67
 have cf:=HM4.out.o.m.cells.fz
 simp only [macV] at c67
 go_wp2_with fail
 go_end0
 have:=HM4.out.setPc (s.pc+1)
 refine ⟨rfl,vo4,vt3,by simpa using this,?_⟩
 exact ((((Fr.of HB1.out _).drew.trans HF2.out).trans HF3.out).trans HF4.out).trans (frB w4 b vo4 M vt3 67 _)
theorem load4_act {l:List Nat} {x:Nat} (h:Mach w b K s vo R M vt logs tou) (ho:s.ops=l++[x]) (hx:x<4294967296) (hn:l.length≤65535) (hp:s.pc<4294967295) (o a:Nat) :
 Calls Tryz.prog 85 #[.pointer (some ⟨b,0,none⟩),.agg #[.int .u8 o,.int .u32 a]] w (ActOk b K R M logs tou vo vt w ({ s with ops:=l++[loadN s.data x 4],pc:=s.pc+1 },touN M.N x 4 false)):=by
 have hmx:Tryz.prog.follows .mixedOrders=true:=by kernel_rfl
 obtain ⟨W1,hW1⟩:∃ W1,W1=w.alloc (.cells #[.int .u8 o,.int .u32 a] 106):=⟨_,rfl⟩
 have hb1:Below w.heap.size w W1:=by rw [hW1];exact Bel.new _ _
 have H1:=(h.below hb1).below (Below.refl _ _).drew
 have c65:=(h.below hb1).c65
 have HP:=Lib.hid (H1.pop ho (by omega))
 have HB1:=Lib.hid hb1
 have hw:IntKind.u32.wrap ((s.pc:Int)+1)=(s.pc:Int)+1:=by rw [IntKind.wrap_u32];omega
 clear h hb1 H1 ho
 go_enter Tryz.func85,Tryz.ntmps85
 go_wp2_with fail
 rw [← hW1]
 clear hW1
 first|(go_region_held3 (fun W=>W.cell? ⟨b,65,none⟩=some (.pointer (some ⟨M.p,0,none⟩)))
  (first|assumption)
  (first
   | (go_at_call 119;refine HP.out.mono ?_;rintro e w2 ⟨rfl,vo2,m2,f2,-,-⟩;have d65:=m2.c65;have HL:=Lib.hid (load4_mem m2.mem hx);have HM2:=Lib.hid m2;have HF2:=Lib.hid f2;clear m2 f2)
   | (go_at_call 118;refine HL.out.mono ?_;rintro e w3 ⟨rfl,vt3,m3,f3⟩;have hm3:=HM2.out.liftM m3 f3;have e65:=hm3.c65;have HU:=Lib.hid (hm3.push (show l.length≤65536 by omega) (loadN s.data x 4));have HF3:=Lib.hid (frM f3 b vo2);clear hm3 m3 f3)
   | (go_at_call 123; refine HU.out.mono ?_; rintro e w4 ⟨rfl, vo4, m4, f4⟩; have g65 := m4.c65; have HM4 := Lib.hid m4; have HF4 := Lib.hid f4; clear m4 f4))) | fail "held"
 have c67:=HM4.out.o.m.cells.c67
 have cf:=HM4.out.o.m.cells.fz
 simp only [macV] at c67
 go_wp2_with fail
 go_end0
 have:=HM4.out.setPc (s.pc+1)
 refine ⟨rfl,vo4,vt3,by simpa using this,?_⟩
 exact ((((Fr.of HB1.out _).drew.trans HF2.out).trans HF3.out).trans HF4.out).trans (frB w4 b vo4 M vt3 67 _)
theorem store1_act {l:List Nat} {x y:Nat} (h:Mach w b K s vo R M vt logs tou) (ho:s.ops=l++[x]++[y]) (hx:x<4294967296) (hy:y<4294967296) (hn:l.length≤65535) (hp:s.pc<4294967295) (o a:Nat) :
 Calls Tryz.prog 86 #[.pointer (some ⟨b,0,none⟩),.agg #[.int .u8 o,.int .u32 a]] w (ActOk b K R M logs tou vo vt w ({ s with ops:=l,data:=storeN s.data x y 1,pc:=s.pc+1 },touN M.N x 1 true)):=by
 have hmx:Tryz.prog.follows .mixedOrders=true:=by kernel_rfl
 have HP:=Lib.hid ((h.below (Bel.new w (.cells #[.int .u8 o,.int .u32 a] 106))).pop ho (by simp;omega))
 have HB1:=Lib.hid (Bel.new w (.cells #[.int .u8 o,.int .u32 a] 106))
 have hw:IntKind.u32.wrap ((s.pc:Int)+1)=(s.pc:Int)+1:=by rw [IntKind.wrap_u32];omega
 clear h ho
 go_enter Tryz.func86,Tryz.ntmps86
 go_wp2_with fail
 refine HP.out.mono ?_
 rintro e w1 ⟨rfl,vo1,m1,f1,-,-⟩
 have c65:=m1.c65
 have HP2:=Lib.hid ((m1.below (Below.refl _ _).drew).pop (l:=l) rfl (by omega))
 have HF1:=Lib.hid f1
 clear m1 f1
 go_wp2_with fail
 first|(go_region_held3 (fun W=>W.cell? ⟨b,65,none⟩=some (.pointer (some ⟨M.p,0,none⟩)))
  (first|assumption)
  (first
   | (go_at_call 119;refine HP2.out.mono ?_;rintro e w2 ⟨rfl,vo2,m2,f2,-,-⟩;have d65:=m2.c65;have HL:=Lib.hid (store1_mem m2.mem hx hy);have HM2:=Lib.hid m2;have HF2:=Lib.hid f2;clear m2 f2)
   | (go_at_call 126; refine HL.out.mono ?_; rintro e w4 ⟨rfl, vt3, m3, f3⟩; have hm3 := HM2.out.liftM m3 f3; have e65 := hm3.c65; have HM4 := Lib.hid hm3; have HF3 := Lib.hid (frM f3 b vo2); clear hm3 m3 f3))) | fail "held"
 have c67:=HM4.out.o.m.cells.c67
 have cf:=HM4.out.o.m.cells.fz
 simp only [macV] at c67
 go_wp2_with fail
 go_end0
 have:=HM4.out.setPc (s.pc+1)
 refine ⟨rfl,vo2,vt3,by simpa using this,?_⟩
 exact (((((Fr.of HB1.out _).trans HF1.out).drew).trans HF2.out).trans HF3.out).trans (frB w4 b vo2 M vt3 67 _)
theorem store2_act {l:List Nat} {x y:Nat} (h:Mach w b K s vo R M vt logs tou) (ho:s.ops=l++[x]++[y]) (hx:x<4294967296) (hy:y<4294967296) (hn:l.length≤65535) (hp:s.pc<4294967295) (o a:Nat) :
 Calls Tryz.prog 87 #[.pointer (some ⟨b,0,none⟩),.agg #[.int .u8 o,.int .u32 a]] w (ActOk b K R M logs tou vo vt w ({ s with ops:=l,data:=storeN s.data x y 2,pc:=s.pc+1 },touN M.N x 2 true)):=by
 have hmx:Tryz.prog.follows .mixedOrders=true:=by kernel_rfl
 have HP:=Lib.hid ((h.below (Bel.new w (.cells #[.int .u8 o,.int .u32 a] 106))).pop ho (by simp;omega))
 have HB1:=Lib.hid (Bel.new w (.cells #[.int .u8 o,.int .u32 a] 106))
 have hw:IntKind.u32.wrap ((s.pc:Int)+1)=(s.pc:Int)+1:=by rw [IntKind.wrap_u32];omega
 clear h ho
 go_enter Tryz.func87,Tryz.ntmps87
 go_wp2_with fail
 refine HP.out.mono ?_
 rintro e w1 ⟨rfl,vo1,m1,f1,-,-⟩
 have c65:=m1.c65
 have HP2:=Lib.hid ((m1.below (Below.refl _ _).drew).pop (l:=l) rfl (by omega))
 have HF1:=Lib.hid f1
 clear m1 f1
 go_wp2_with fail
 first|(go_region_held3 (fun W=>W.cell? ⟨b,65,none⟩=some (.pointer (some ⟨M.p,0,none⟩)))
  (first|assumption)
  (first
   | (go_at_call 119;refine HP2.out.mono ?_;rintro e w2 ⟨rfl,vo2,m2,f2,-,-⟩;have d65:=m2.c65;have HL:=Lib.hid (store2_mem m2.mem hx hy);have HM2:=Lib.hid m2;have HF2:=Lib.hid f2;clear m2 f2)
   | (go_at_call 127; refine HL.out.mono ?_; rintro e w4 ⟨rfl, vt3, m3, f3⟩; have hm3 := HM2.out.liftM m3 f3; have e65 := hm3.c65; have HM4 := Lib.hid hm3; have HF3 := Lib.hid (frM f3 b vo2); clear hm3 m3 f3))) | fail "held"
 have c67:=HM4.out.o.m.cells.c67
 have cf:=HM4.out.o.m.cells.fz
 simp only [macV] at c67
 go_wp2_with fail
 go_end0
 have:=HM4.out.setPc (s.pc+1)
 refine ⟨rfl,vo2,vt3,by simpa using this,?_⟩
 exact (((((Fr.of HB1.out _).trans HF1.out).drew).trans HF2.out).trans HF3.out).trans (frB w4 b vo2 M vt3 67 _)
theorem store4_act {l:List Nat} {x y:Nat} (h:Mach w b K s vo R M vt logs tou) (ho:s.ops=l++[x]++[y]) (hx:x<4294967296) (hy:y<4294967296) (hn:l.length≤65535) (hp:s.pc<4294967295) (o a:Nat) :
 Calls Tryz.prog 88 #[.pointer (some ⟨b,0,none⟩),.agg #[.int .u8 o,.int .u32 a]] w (ActOk b K R M logs tou vo vt w ({ s with ops:=l,data:=storeN s.data x y 4,pc:=s.pc+1 },touN M.N x 4 true)):=by
 have hmx:Tryz.prog.follows .mixedOrders=true:=by kernel_rfl
 have HP:=Lib.hid ((h.below (Bel.new w (.cells #[.int .u8 o,.int .u32 a] 106))).pop ho (by simp;omega))
 have HB1:=Lib.hid (Bel.new w (.cells #[.int .u8 o,.int .u32 a] 106))
 have hw:IntKind.u32.wrap ((s.pc:Int)+1)=(s.pc:Int)+1:=by rw [IntKind.wrap_u32];omega
 clear h ho
 go_enter Tryz.func88,Tryz.ntmps88
 go_wp2_with fail
 refine HP.out.mono ?_
 rintro e w1 ⟨rfl,vo1,m1,f1,-,-⟩
 have c65:=m1.c65
 have HP2:=Lib.hid ((m1.below (Below.refl _ _).drew).pop (l:=l) rfl (by omega))
 have HF1:=Lib.hid f1
 clear m1 f1
 go_wp2_with fail
 first|(go_region_held3 (fun W=>W.cell? ⟨b,65,none⟩=some (.pointer (some ⟨M.p,0,none⟩)))
  (first|assumption)
  (first
   | (go_at_call 119;refine HP2.out.mono ?_;rintro e w2 ⟨rfl,vo2,m2,f2,-,-⟩;have d65:=m2.c65;have HL:=Lib.hid (store4_mem m2.mem hx hy);have HM2:=Lib.hid m2;have HF2:=Lib.hid f2;clear m2 f2)
   | (go_at_call 48; refine HL.out.mono ?_; rintro e w4 ⟨rfl, vt3, m3, f3⟩; have hm3 := HM2.out.liftM m3 f3; have e65 := hm3.c65; have HM4 := Lib.hid hm3; have HF3 := Lib.hid (frM f3 b vo2); clear hm3 m3 f3))) | fail "held"
 have c67:=HM4.out.o.m.cells.c67
 have cf:=HM4.out.o.m.cells.fz
 simp only [macV] at c67
 go_wp2_with fail
 go_end0
 have:=HM4.out.setPc (s.pc+1)
 refine ⟨rfl,vo2,vt3,by simpa using this,?_⟩
 exact (((((Fr.of HB1.out _).trans HF1.out).drew).trans HF2.out).trans HF3.out).trans (frB w4 b vo2 M vt3 67 _)
theorem arg_act {l:List Nat} {x:Nat} (h:Mach w b K s vo R M vt logs tou) (ho:s.ops=l++[x]) (hx:x<4294967296) (hn:l.length≤65535) (hp:s.pc<4294967295) (o a:Nat) :
 Calls Tryz.prog 82 #[.pointer (some ⟨b,0,none⟩),.agg #[.int .u8 o,.int .u32 a]] w (ActOk b K R M logs tou vo vt w ({ s with ops:=l,data:=storeN s.data ((s.sp+4+4 * a) % 4294967296) x 4,pc:=s.pc+1 },touN M.N ((s.sp+4+4 * a) % 4294967296) 4 true)):=by
 have hmx:Tryz.prog.follows .mixedOrders=true:=by kernel_rfl
 obtain ⟨W1,hW1⟩:∃ W1,W1=w.alloc (.cells #[.int .u8 o,.int .u32 a] 106):=⟨_,rfl⟩
 have hb1:Below w.heap.size w W1:=by rw [hW1];exact Bel.new _ _
 have hh1:W1.heap[w.heap.size]?=some (.cells #[.int .u8 o,.int .u32 a] 106 (0,0)):=by rw [hW1];exact heap_alloc_new _ _
 have d1:=cell_of_row W1 w.heap.size 1 _ _ _ hh1
 have H1:=(h.below hb1).below (Below.refl _ _).drew
 have c65:=(h.below hb1).c65
 have c68:=(h.below hb1).o.m.cells.c68
 simp only [macV] at c68
 have hlt:=h.lt
 have HML:=Lib.hid h.mem.flt
 have HP:=Lib.hid (H1.pop ho (by omega))
 have HB1:=Lib.hid hb1
 have HH1:=Lib.hid hh1
 have hw:IntKind.u32.wrap ((s.pc:Int)+1)=(s.pc:Int)+1:=by rw [IntKind.wrap_u32];omega
 obtain ⟨q,hq⟩:∃ q,q=(s.sp+4+4 * a) % 4294967296:=⟨_,rfl⟩
 have hqv:IntKind.u32.wrap (IntKind.u32.wrap ((s.sp:Int)+4)+IntKind.u32.wrap (4 * (a:Int)))=(q:Int):=by simp only [IntKind.wrap_u32];omega
 have hq9:q<4294967296:=by omega
 rw [← hq]
 clear h hb1 H1 ho hh1 hq
 go_enter Tryz.func82,Tryz.ntmps82
 go_wp2_with fail
 rw [← hW1]
 clear hW1
 first|(go_region_held3 (fun W=>W.cell? ⟨b,65,none⟩=some (.pointer (some ⟨M.p,0,none⟩))∧W.cell? ⟨b,68,none⟩=some (.int .u32 s.sp)∧W.cell? ⟨w.heap.size,1,none⟩=some (.int .u32 a))
  (first|assumption|exact ⟨by assumption,by assumption,by assumption⟩)
  (first
   | (go_at_call 119;refine HP.out.mono ?_;rintro e w2 ⟨rfl,vo2,m2,f2,fb,-⟩;have d65:=m2.c65;have d68:=m2.o.m.cells.c68;simp only [macV] at d68;have dd:=cell_of_row w2 w.heap.size 1 _ _ _ (fb.row (HH1.out:W1.drew.heap[w.heap.size]?=_) (by omega));have HL:=Lib.hid (store4_mem m2.mem hq9 hx);have HM2:=Lib.hid m2;have HF2:=Lib.hid f2;have HD2:=Lib.hid (fb.row (HH1.out:W1.drew.heap[w.heap.size]?=_) (by omega));clear m2 f2 fb)
   | (go_at_call 48; refine HL.out.mono ?_; rintro e w4 ⟨rfl, vt3, m3, f3⟩; have hm3 := HM2.out.liftM m3 f3; have e65 := hm3.c65; have e68 := hm3.o.m.cells.c68; simp only [macV] at e68; have ee := cell_of_row w4 w.heap.size 1 _ _ _ (f3.row HD2.out (fun hk => Nat.lt_irrefl _ (HML.out _ hk))); have HM4 := Lib.hid hm3; have HF3 := Lib.hid (frM f3 b vo2); clear hm3 m3 f3))) | fail "held"
 have c67:=HM4.out.o.m.cells.c67
 have cf:=HM4.out.o.m.cells.fz
 simp only [macV] at c67
 go_wp2_with fail
 go_end0
 have:=HM4.out.setPc (s.pc+1)
 refine ⟨rfl,vo2,vt3,by simpa using this,?_⟩
 exact ((((Fr.of HB1.out _).drew.trans HF2.out).trans HF3.out)).trans (frB w4 b vo2 M vt3 67 _)
end
end Go.Proofs.YtdffaepbkecoeaaGreat
