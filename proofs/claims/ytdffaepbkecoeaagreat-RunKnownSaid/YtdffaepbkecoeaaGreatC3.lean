import Derived.Test.YtdffaepbkecoeaaGreatC2
import Derived.Lib.ConvBytes
import Derived.Deep.DrawnRows
import Derived.Lib.SlBytesConst
import Derived.ScopeJumps
import Derived.WalkMore
import Derived.ProofKit
import Derived.OpenShut
import Derived.Lib.SmallJoins
import Derived.Deep.Slices
import Derived.Deep.Fields
import Derived.ChangeSame
import Derived.SizedLaws
set_option maxRecDepth 100000
set_option maxHeartbeats 8000000
namespace Go.Proofs.YtdffaepbkecoeaaGreat
open Go.RowKit
set_option linter.unusedVariables false
attribute [local go_sem ↓] Go.wp_at_zero Go.wp_at_succ
theorem nameB_lt (n:ByteArray×Nat):∀x∈nameB n,x<256:=by
 intro x hx;unfold nameB at hx;rcases List.mem_append.1 hx with hx|hx
 ·exact le4_lt _ x hx
 ·rcases List.mem_append.1 hx with hx|hx
  ·rw[List.mem_singleton.1 hx];exact Nat.mod_lt _ (by decide)
  ·obtain⟨b,_,rfl⟩:=List.mem_map.1 hx
   exact b.toNat_lt
theorem namesB_lt (lx:List (ByteArray×Nat)):∀x∈namesB lx,x<256:=by
 intro x hx;obtain⟨n,_,hn⟩:=List.mem_flatMap.1 hx;exact nameB_lt n x hn
theorem namesB_take (lx:List (ByteArray×Nat)) (k:Nat) (hk:k<lx.length):namesB (lx.take (k+1))=namesB (lx.take k)++nameB (lx.getD k (ByteArray.empty,0)):=by
 unfold namesB;rw[List.take_add_one,List.getElem?_eq_getElem hk,List.flatMap_append,List.getD_eq_getElem?_getD,List.getElem?_eq_getElem hk];simp
theorem byN_length (s:ByteArray):(byN s).length=s.size:=by unfold byN;rw[List.length_map,Array.length_toList];rfl
theorem nameB_length (n:ByteArray×Nat):(nameB n).length=5+n.1.size:=by
 simp only[nameB,List.length_append,le4_length,List.length_cons,List.length_nil,byN_length];omega
theorem byN_lt (s:ByteArray):∀x∈byN s,x<256:=by
 intro x hx;obtain⟨b,_,rfl⟩:=List.mem_map.1 hx;exact b.toNat_lt
theorem put8_one (b:Nat) (x:Nat) (hx:x<256) (w:World) (hc:w.cell? ⟨b,0,none⟩=some (.int .u8 x)) :
 Calls Tryz.prog 113 #[.slice (some ⟨b,0,none⟩) 1 1] w fun e w'=>∃v,e=.returned v∧w'.ownsRow w.heap.size 5 1 v 1 (encN .u8 [x])∧Below w.heap.size w w':=by
 refine(put8_any (some ⟨b,0,none⟩) 1 [x] (by simpa using hx) w ⟨some ⟨b,0,none⟩,1,rfl,rfl,Nat.le_refl _,by decide,(fun h=>by cases h),fun _=>⟨b,0,rfl,World.block_lt_of_cell? w _ hc,fun j hj=>?_⟩⟩ (by simp)).mono ?_
 ·have:j=0:=by simp[encN]at hj;exact hj
  subst this;exact hc
 ·rintro e w'⟨v',rfl,hown,hg⟩
  exact⟨v',rfl,own_from hown (fun g e=>(hg.2 g e).resolve_left (by simp[Value.ownBlock])),hg.bel⟩
theorem put4_one (b:Nat) (x:Nat) (hx:x<4294967296) (w:World) (hc:w.cell? ⟨b,0,none⟩=some (.int .u32 x)) :
 Calls Tryz.prog 112 #[.slice (some ⟨b,0,none⟩) 1 1] w fun e w'=>∃v,e=.returned v∧w'.ownsRow w.heap.size 5 1 v 4 (encN .u8 (le4 x))∧Below w.heap.size w w':=by
 refine(put_any (some ⟨b,0,none⟩) 1 [x] (by simpa using hx) w ⟨some ⟨b,0,none⟩,1,rfl,rfl,Nat.le_refl _,by decide,(fun h=>by cases h),fun _=>⟨b,0,rfl,World.block_lt_of_cell? w _ hc,fun j hj=>?_⟩⟩ (by simp)).mono ?_
 ·have:j=0:=by simp[encN]at hj;exact hj
  subst this;exact hc
 ·rintro e w'⟨v',rfl,hown,hg⟩
  refine⟨v',rfl,?_,hg.bel⟩;have h:=own_from hown (fun g e=>(hg.2 g e).resolve_left (by simp[Value.ownBlock]))
  simpa[le4s]using h
theorem below_bytes (w:World) (s:ByteArray):Below w.heap.size w (Go.Lib.bytesWorld w 5 s):=
 ⟨rfl,rfl,rfl,by rw[Go.Lib.bytesWorld_size];omega,fun k hk=>Go.Lib.bytesWorld_at_old w 5 s k hk⟩
theorem cell1_new (w:World) (v:Value) (t:TypeId) {b:Nat} (hb:b=w.heap.size):(w.alloc (.cells #[v] t)).cell? ⟨b,0,none⟩=some v:=by subst hb;simp[go_sem]
theorem cell_dr {w:World} {a:Addr} {v:Value} (h:w.cell? a=some v):w.drew.cell? a=some v:=h
theorem cell_alE {w:World} {a:Addr} {v:Value} {o:Obj} (h:w.cell? a=some v):(w.alloc o).cell? a=some v:=((Bel.new w o).cell (p:=a) (World.block_lt_of_cell? w a h)).trans h
theorem cell_by {w:World} {a:Addr} {v:Value} {s:ByteArray} (h:w.cell? a=some v):(Go.Lib.bytesWorld w 5 s).cell? a=some v:=((below_bytes w s).cell (p:=a) (World.block_lt_of_cell? w a h)).trans h
theorem cell_be {w w':World} {a:Addr} {v:Value} (hb:Below w.heap.size w w') (h:w.cell? a=some v):w'.cell? a=some v:=(hb.cell (p:=a) (World.block_lt_of_cell? w a h)).trans h
theorem bel_by {w w1:World} {s:ByteArray} (h:Below w.heap.size w w1):Below w.heap.size w (Go.Lib.bytesWorld w1 5 s):=Bel.tr h (below_bytes w1 s)
theorem bytes_conv (w:World) (s:ByteArray) (hs:s.size≤1000) {b c:Nat} (hb:b=w.heap.size) (hc:c=grownCap w s.size 0 5):Bytes (Go.Lib.bytesWorld w 5 s) (.slice (some ⟨b,0,none⟩) s.size c) (byN s):=by
 subst hb hc;refine⟨⟨some ⟨w.heap.size,0,none⟩,grownCap w s.size 0 5,by rw[byN_length],by rw[encN_length,Nat.mul_one],?_,grownCap_le_maxLen w s.size 0 5 (by unfold maxLen;omega),(fun h=>by cases h),fun _=>⟨w.heap.size,0,rfl,by rw[Go.Lib.bytesWorld_size];omega,fun j hj=>?_⟩⟩,byN_lt s⟩
 ·rw[byN_length];exact grownCap_ge w s.size 0 5
 ·rw[encN_length,byN_length]at hj
  rw[Nat.zero_add,Go.Lib.bytesWorld_cell w 5 s j hj];have hj2:j<s.data.size:=hj;simp only[encN,byN,List.getD_eq_getElem?_getD,List.map_map,List.getElem?_map,Array.getElem?_toList];rw[Array.getElem?_eq_getElem hj2];rfl
theorem own_down {w:World} {B B' e sz n:Nat} {v:Value} {xs:List Value} (h:w.ownsRow B' e sz v n xs) (hb:B≤B'):w.ownsRow B e sz v n xs:=own_from (own_base h) (fun g e=>Nat.le_trans hb (h.lt g e).1)
theorem concat4 (w:World) (v0 v1 v2 v3:Value) (l0 l1 l2 l3:List Nat) (ht:l0.length+l1.length+l2.length+l3.length≤100000000) (h0:Bytes w v0 l0) (h1:Bytes w v1 l1) (h2:Bytes w v2 l2) (h3:Bytes w v3 l3) :
 Calls Tryz.prog 111 #[.slice (some ⟨w.heap.size,0,none⟩) 4 4] (w.alloc (.cells #[v0,v1,v2,v3] 24)) fun e w'=>∃v,e=.returned v∧w'.ownsRow w.heap.size 5 1 v (l0.length+l1.length+l2.length+l3.length) (encN .u8 (l0++l1++l2++l3))∧Below (w.alloc (.cells #[v0,v1,v2,v3] 24)).heap.size (w.alloc (.cells #[v0,v1,v2,v3] 24)) w':=by
 have hb:Below w.heap.size w (w.alloc (.cells #[v0,v1,v2,v3] 24)):=Bel.new w _;have hsz:(w.alloc (.cells #[v0,v1,v2,v3] 24)).heap.size=w.heap.size+1:=by simp
 have hfl:[l0,l1,l2,l3].flatten=l0++l1++l2++l3:=by simp
 have hlen:(l0++l1++l2++l3).length=l0.length+l1.length+l2.length+l3.length:=by simp[List.length_append,Nat.add_assoc]
 refine(concat_any w.heap.size 4 4 [v0,v1,v2,v3] [l0,l1,l2,l3] rfl (by decide) (by rw[hfl,hlen];exact ht) _ ⟨rfl,by rw[hsz];omega,fun j hj=>?_,fun j v hv=>?_⟩).mono ?_
 ·have:j=0∨j=1∨j=2∨j=3:=by simp at hj;omega
  rcases this with rfl|rfl|rfl|rfl<;>simp[go_sem]
 ·have hj:j<4:=by
   have:=(List.getElem?_eq_some_iff.1 hv).1
   simpa using this
  have:j=0∨j=1∨j=2∨j=3:=by omega
  rcases this with rfl|rfl|rfl|rfl
  ·obtain rfl:v0=v:=by simpa using hv
   exact h0.below hb
  ·obtain rfl:v1=v:=by simpa using hv
   exact h1.below hb
  ·obtain rfl:v2=v:=by simpa using hv
   exact h2.below hb
  ·obtain rfl:v3=v:=by simpa using hv
   exact h3.below hb
 ·rintro e w'⟨v,rfl,ho,hb'⟩
  rw[hfl,hlen]at ho;exact⟨v,rfl,own_down ho (by rw[hsz];omega),hb'⟩
theorem namesB_len (lx:List (ByteArray×Nat)) (h:∀j,j<lx.length→(lx.getD j (ByteArray.empty,0)).1.size≤1000):∀k,k≤lx.length→(namesB (lx.take k)).length≤k*2000
 | 0,_=>by simp[namesB]
 | k+1,hk=>by
  have ih:=namesB_len lx h k (by omega);have:=h k (by omega);rw[namesB_take lx k (by omega),List.length_append,nameB_length];omega
theorem lists4 (w:World) (v0 v1 v2 v3:Value) (l0 l1 l2 l3:List Nat) (h0:Bytes w v0 l0) (h1:Bytes w v1 l1) (h2:Bytes w v2 l2) (h3:Bytes w v3 l3) :
 ListsB (w.alloc (.cells #[v0,v1,v2,v3] 24)) w.heap.size [v0,v1,v2,v3] [l0,l1,l2,l3]:=by
 have hb:Below w.heap.size w (w.alloc (.cells #[v0,v1,v2,v3] 24)):=Bel.new w _;refine⟨rfl,by simp,fun j hj=>?_,fun j v hv=>?_⟩
 ·have:j=0∨j=1∨j=2∨j=3:=by simp at hj;omega
  rcases this with rfl|rfl|rfl|rfl<;>simp[go_sem]
 ·have hj:j<4:=by
   have:=(List.getElem?_eq_some_iff.1 hv).1
   simpa using this
  have:j=0∨j=1∨j=2∨j=3:=by omega
  rcases this with rfl|rfl|rfl|rfl
  ·obtain rfl:v0=v:=by simpa using hv
   exact h0.below hb
  ·obtain rfl:v1=v:=by simpa using hv
   exact h1.below hb
  ·obtain rfl:v2=v:=by simpa using hv
   exact h2.below hb
  ·obtain rfl:v3=v:=by simpa using hv
   exact h3.below hb
theorem lists2 (w:World) (v0 v1:Value) (l0 l1:List Nat) (h0:Bytes w v0 l0) (h1:Bytes w v1 l1) :
 ListsB (w.alloc (.cells #[v0,v1] 24)) w.heap.size [v0,v1] [l0,l1]:=by
 have hb:Below w.heap.size w (w.alloc (.cells #[v0,v1] 24)):=Bel.new w _;refine⟨rfl,by simp,fun j hj=>?_,fun j v hv=>?_⟩
 ·have:j=0∨j=1:=by simp at hj;omega
  rcases this with rfl|rfl<;>simp[go_sem]
 ·have hj:j<2:=by
   have:=(List.getElem?_eq_some_iff.1 hv).1
   simpa using this
  have:j=0∨j=1:=by omega
  rcases this with rfl|rfl
  ·obtain rfl:v0=v:=by simpa using hv
   exact h0.below hb
  ·obtain rfl:v1=v:=by simpa using hv
   exact h1.below hb
theorem ListsB.at {w:World} {q:Nat} {vs:List Value} {ls:List (List Nat)} (h:ListsB w q vs ls) (k:Nat) (hk:k<ls.length):∃a c,w.cell? ⟨q,k,none⟩=some (.slice a (ls.getD k []).length c)∧Bytes w (.slice a (ls.getD k []).length c) (ls.getD k []):=by
 have hv:k<vs.length:=by rw[h.hl];exact hk
 obtain⟨v,hv'⟩:∃v,vs[k]?=some v:=⟨_,List.getElem?_eq_getElem hv⟩;have hb:=h.hb k v hv';have hc:=h.hc k hv;obtain⟨⟨a,c,rfl,rest⟩,hlt⟩:=hb;exact⟨a,c,hc.trans hv',⟨⟨a,c,rfl,rest⟩,hlt⟩⟩
theorem concat2 (w:World) (v0 v1:Value) (l0 l1:List Nat) (ht:(l0++l1).length≤100000000) (h0:Bytes w v0 l0) (h1:Bytes w v1 l1) :
 Calls Tryz.prog 111 #[.slice (some ⟨w.heap.size,0,none⟩) 2 2] (w.alloc (.cells #[v0,v1] 24)) fun e w'=>∃v,e=.returned v∧w'.ownsRow w.heap.size 5 1 v (l0++l1).length (encN .u8 (l0++l1))∧Below w.heap.size w w':=by
 have hfl:[l0,l1].flatten=l0++l1:=by simp
 refine(concat_any w.heap.size 2 2 [v0,v1] [l0,l1] rfl (by decide) (by rw[hfl];exact ht) _ (lists2 w v0 v1 l0 l1 h0 h1)).mono ?_;rintro e w'⟨v,rfl,ho,hb'⟩;rw[hfl]at ho;exact⟨v,rfl,own_down ho (by simp),Bel.of hb'⟩
theorem encode_lt (l:List (Nat×Nat)) (h:∀i∈l,i.1<256∧i.2<4294967296):∀x∈encode l,x<256:=by
 intro x hx;obtain⟨i,hi,hx⟩:=List.mem_flatMap.1 hx;rcases List.mem_cons.1 hx with rfl|hx
 ·exact(h i hi).1
 ·exact le4_lt _ x (List.mem_of_mem_take hx)
theorem le4s_lt (l:List Nat):∀x∈le4s l,x<256:=by
 intro x hx;obtain⟨i,_,hx⟩:=List.mem_flatMap.1 hx;exact le4_lt _ x hx
theorem words_lt {w:World} {v:Value} {l:List Nat} (h:Words w v l):∀x∈l,x<4294967296:=by
 intro x hx;obtain⟨k,hk,rfl⟩:=List.getElem_of_mem hx;have:=h.2 k
 rwa [List.getD_eq_getElem?_getD,List.getElem?_eq_getElem hk]at this
theorem put_new (l:List Nat) (hl:∀i∈l,i<4294967296) (hn:l.length≤1000) (w:World) (n:Nat) (hn2:n=l.length) (cs:Array Value) (hcs:cs.toList=encN .u32 l) :
 Calls Tryz.prog 112 #[.slice (some ⟨w.heap.size,0,none⟩) n n] (w.alloc (.cells cs 25)) fun e w'=>∃v,e=.returned v∧w'.ownsRow w.heap.size 5 1 v (4*l.length) (encN .u8 (le4s l))∧Below w.heap.size w w':=by
 subst hn2;refine(put_any (some ⟨w.heap.size,0,none⟩) l.length l hl _ ⟨some ⟨w.heap.size,0,none⟩,l.length,rfl,by rw[encN_length,Nat.mul_one],Nat.le_refl _,by unfold maxLen;omega,(fun h=>by cases h),fun _=>⟨w.heap.size,0,rfl,by simp,fun j hj=>?_⟩⟩ (by omega)).mono ?_
 ·rw[←hcs]at hj⊢
  simp[go_sem]
 ·rintro e w'⟨v',rfl,hown,hg⟩
  exact⟨v',rfl,own_from hown (fun g e=>by
   have:=(hg.2 g e).resolve_left (by simp[Value.ownBlock]);simp at this
   omega),Bel.of hg.bel⟩
end Go.Proofs.YtdffaepbkecoeaaGreat
namespace Go.Proofs.YtdffaepbkecoeaaGreat
open Go.RowKit
set_option linter.unusedVariables false
attribute [local go_sem ↓] Go.wp_at_zero Go.wp_at_succ
theorem bytes_new (l:List Nat) (hl:∀i∈l,i<256) (hn:l.length≤1000) (w:World) (n:Nat) (hn2:n=l.length) (cs:Array Value) (fr:Nat×Nat) (hcs:cs.toList=encN .u8 l):Bytes (w.alloc (.cells cs 5 fr)) (.slice (some ⟨w.heap.size,0,none⟩) n n) l:=by
 subst hn2;refine⟨⟨some ⟨w.heap.size,0,none⟩,l.length,rfl,by rw[encN_length,Nat.mul_one],Nat.le_refl _,by unfold maxLen;omega,(fun h=>by cases h),fun _=>⟨w.heap.size,0,rfl,by simp,fun j hj=>?_⟩⟩,hl⟩;rw[Nat.zero_add,World.cell?_alloc_mark,←hcs,Array.getElem?_toList]
theorem put_at (l:List Nat) {w:World} {b n:Nat} {cs:Array Value} (hl:∀i∈l,i<4294967296) (hn:l.length≤1000) (hb:b=w.heap.size) (hn2:n=l.length) (hcs:cs.toList=encN .u32 l) :
 Calls Tryz.prog 112 #[.slice (some ⟨b,0,none⟩) n n] (w.alloc (.cells cs 25)) fun e w'=>∃v,e=.returned v∧w'.ownsRow w.heap.size 5 1 v (4*l.length) (encN .u8 (le4s l))∧Below w.heap.size w w':=by
 subst hb;exact put_new l hl hn w n hn2 cs hcs
theorem spansL_lt (N:Nat):∀(l:List Nat) (a:Nat),a+l.sum<N→∀s∈spansL a l,s.1<N∧s.2<N
 | [],_,_,s,h=>by simp[spansL]at h
 | n::l,a,h,s,hs=>by
  rw[List.sum_cons]at h;rcases List.mem_cons.1 hs with rfl|hs
  ·exact⟨by show a<N;omega,by show n<N;omega⟩
  ·exact spansL_lt N l (a+n) (by omega) s hs
def flatS (l:List (Nat×Nat)):List Nat:=l.flatMap (fun s=>le4s [s.1,s.2])
theorem flatS_length (l:List (Nat×Nat)):(flatS l).length=8*l.length:=by
 induction l with
 | nil=>rfl
 | cons s l ih=>
  have:flatS (s::l)=le4s [s.1,s.2]++flatS l:=rfl;rw[this,List.length_append,ih,le4s_length,List.length_cons];simp only[List.length_cons,List.length_nil];omega
theorem flatS_take (l:List (Nat×Nat)) (k:Nat) (hk:k<l.length):flatS (l.take (k+1))=flatS (l.take k)++le4s [(l.getD k (0,0)).1,(l.getD k (0,0)).2]:=by
 rw[flatS,flatS,List.take_add_one,List.getElem?_eq_getElem hk,List.flatMap_append,List.getD_eq_getElem?_getD,List.getElem?_eq_getElem hk];simp
theorem flatS_lt (l:List (Nat×Nat)):∀x∈flatS l,x<256:=by
 intro x hx;obtain⟨i,_,hx⟩:=List.mem_flatMap.1 hx;exact le4s_lt _ x hx
theorem flat_take (ls:List (List Nat)) (k:Nat) (hk:k<ls.length):(ls.take (k+1)).flatten=(ls.take k).flatten++ls.getD k []:=by
 rw[List.take_add_one,List.getElem?_eq_getElem hk,List.flatten_append,List.getD_eq_getElem?_getD,List.getElem?_eq_getElem hk];simp
def cvS (x:Operand):Op:=Op.convert 9 24 x
attribute [local go_sem] cvS
theorem imgEncode_any (vc vj vd vn:Value) (m:Img) (hm:checkI m=0) (w:World) (h:ImgAt w vc vj vd vn m) :
 Calls Tryz.prog 61 #[.agg #[vc,vj,vd,.int .u32 m.zero,.int .u32 m.stack,vn]] w fun e w'=>∃u,e=.returned (.tuple #[u,.int .i64 0])∧w'.ownsRow w.heap.size 5 1 u (imgB m).length (encN .u8 (imgB m))∧Below w.heap.size w w':=by
 have H:=Lib.hid h;obtain⟨hc1,hc2,hc3,hc4,hc5,hc6,hc7⟩:=checkI_ok hm;have hb0:=Bel.new w (.cells #[vc,vj,vd,.int .u32 m.zero,.int .u32 m.stack,vn] 28);have HC:=Lib.hid (cells_new6 w vc vj vd (.int .u32 m.zero) (.int .u32 m.stack) vn 28);obtain⟨W0,hW0⟩:∃W0,W0=w.alloc (.cells #[vc,vj,vd,.int .u32 m.zero,.int .u32 m.stack,vn] 28):=⟨_,rfl⟩;have HK:=Lib.hid (imgCheck_any vc vj vd vn m W0 (by rw[hW0];exact h.below hb0));rw[hm]at HK;obtain⟨ac,cc,rfl,-⟩:=h.c.1;obtain⟨aj,cj,rfl,-⟩:=h.j.1;obtain⟨ad,cd,rfl,-⟩:=h.d.1;obtain⟨an,cn,rfl,-⟩:=h.n.1;clear h;go_enter Tryz.func61,Tryz.ntmps61;go_wp2_with fail;rw[←hW0];refine HK.out.mono ?_;rintro e w1⟨rfl,hb1⟩;have hs0:w.heap.size<W0.heap.size:=by rw[hW0];simp
 have c0:w1.cell? ⟨w.heap.size,0,none⟩=some (.slice ac m.code.length cc):=(hb1.cell (p:=⟨w.heap.size,0,none⟩) hs0).trans (by rw[hW0];exact HC.out.1);have c1:w1.cell? ⟨w.heap.size,1,none⟩=some (.slice aj m.js.length cj):=(hb1.cell (p:=⟨w.heap.size,1,none⟩) hs0).trans (by rw[hW0];exact HC.out.2.1);have c2:w1.cell? ⟨w.heap.size,2,none⟩=some (.slice ad m.data.length cd):=(hb1.cell (p:=⟨w.heap.size,2,none⟩) hs0).trans (by rw[hW0];exact HC.out.2.2.1);have c3:w1.cell? ⟨w.heap.size,3,none⟩=some (.int .u32 m.zero):=(hb1.cell (p:=⟨w.heap.size,3,none⟩) hs0).trans (by rw[hW0];exact HC.out.2.2.2.1);have c4:w1.cell? ⟨w.heap.size,4,none⟩=some (.int .u32 m.stack):=(hb1.cell (p:=⟨w.heap.size,4,none⟩) hs0).trans (by rw[hW0];exact HC.out.2.2.2.2.1);have c5:w1.cell? ⟨w.heap.size,5,none⟩=some (.slice an m.lx.length cn):=(hb1.cell (p:=⟨w.heap.size,5,none⟩) hs0).trans (by rw[hW0];exact HC.out.2.2.2.2.2);have hbw1:Below w.heap.size w w1:=Bel.tr (by rw[hW0];exact hb0) hb1;have hs1:w.heap.size<w1.heap.size:=Nat.lt_of_lt_of_le hs0 hb1.size;have H1:=Lib.hid (H.out.below hbw1);have HB1:=Lib.hid hbw1;have HE:=Lib.hid (encode_any _ m.code w1 H1.out.c);have henc:encRes m.code=(encode m.code,0,0):=encRes_ok (by omega) (fun j hj=>firstBad_all hc2 j hj);have Henc:=Lib.hid henc;clear hb1 hW0 hb0 HC HK H hbw1 henc;go_wp2_with fail;refine HE.out.mono ?_;intro e w2 hE;unfold EncPost at hE;rw[Henc.out]at hE;obtain⟨uc,rfl,oc,gc,-⟩:=hE;simp only at oc;have hb2:=gc.bel;have hs2:w.heap.size<w2.heap.size:=Nat.lt_of_lt_of_le hs1 hb2.size;have oc':=own_from oc (B:=w1.heap.size) (fun g e=>(gc.2 g e).resolve_left (by simp[Value.ownBlock]));obtain⟨auc,cuc,rfl,-⟩:=own_sl oc;have HOC:=Lib.hid oc';have HB2:=Lib.hid hb2;have d0:=(hb2.cell (p:=⟨w.heap.size,0,none⟩) hs1).trans c0;have d1:=(hb2.cell (p:=⟨w.heap.size,1,none⟩) hs1).trans c1;have d2:=(hb2.cell (p:=⟨w.heap.size,2,none⟩) hs1).trans c2;have d3:=(hb2.cell (p:=⟨w.heap.size,3,none⟩) hs1).trans c3;have d4:=(hb2.cell (p:=⟨w.heap.size,4,none⟩) hs1).trans c4;have d5:=(hb2.cell (p:=⟨w.heap.size,5,none⟩) hs1).trans c5;have H2:=Lib.hid (H1.out.below hb2);clear hb2 gc oc oc' c0 c1 c2 c3 c4 c5 HE;have hnl:m.lx.length≤64:=hc6
 have Hnl:=Lib.hid (namesB_len m.lx (fun j hj=>by
  have:=(namesN_iff m.lx).1 hc7 j hj;unfold nameN at this;simp only[Bool.and_eq_true,decide_eq_true_eq]at this;have:=this.2.1
  omega))
 go_wp2_with fail
 go_loopw[8,39] (fun u i wr=>∃k:Nat,k≤m.lx.length∧i=.int .i64 k∧wr.ownsRow w2.heap.size 5 1 u (namesB (m.lx.take k)).length (encN .u8 (namesB (m.lx.take k)))∧Below w2.heap.size w2 wr) (fun _ i _=>m.lx.length - (intOf i).toNat)
 case atStart=>exact⟨0,by omega,rfl,World.ownsRow_nil _ _ _ _,Below.refl _ _⟩
 case round=>
  obtain⟨k,hk,rfl,ho,hb⟩:=hrel;have HO:=Lib.hid ho;have HB:=Lib.hid hb;have hwr:=hb.size;by_cases hlt:k<m.lx.length
  ·obtain⟨⟨an',cn',he,hl',hnc,hcm,hnn,hp⟩,hx32⟩:=H2.out.n
   cases he;obtain⟨b,off,rfl,hbl,hc⟩:=hp (by omega);obtain⟨x1,x2⟩:=encX_at m.lx k hlt;have n0:=(hb.cell (p:=⟨b,off+k*2,none⟩) hbl).trans ((hc (k*2) (by rw[encX_length];omega)).trans x1);have n1:wr.cell? ⟨b,off+k*2+1,none⟩=some (.int .u32 (m.lx.getD k (ByteArray.empty,0)).2):=(hb.cell (p:=⟨b,off+k*2+1,none⟩) hbl).trans ((by rw[Nat.add_assoc];exact hc (k*2+1) (by rw[encX_length];omega):w2.cell? ⟨b,off+k*2+1,none⟩=_).trans x2);have hx3:=hx32 k;rw[getD_snd]at hx3;have Ht:=Lib.hid (namesB_take m.lx k hlt);have hnm:=(namesN_iff m.lx).1 hc7 k hlt;unfold nameN at hnm;simp only[Bool.and_eq_true,decide_eq_true_eq]at hnm;have hn1:=hnm.1;have hn2:=hnm.2.1;clear hnm hc x1 x2 hp hnn hl' ho hb;generalize m.lx.getD k (ByteArray.empty,0)=nx at*;obtain⟨sx,ax⟩:=nx;simp only at*;have hki:(k:Int)<(m.lx.length:Int):=by omega
   have hk0:(0:Int)≤(k:Int):=by omega
   have hbwr:b<wr.heap.size:=Nat.lt_of_lt_of_le hbl hwr;obtain⟨au,cu,rfl,-⟩:=own_sl HO.out;go_wp2_with fail;obtain⟨q,hq⟩:∃q,q=wr.heap.size:=⟨_,rfl⟩;obtain⟨WA,hWA⟩:∃WA,WA=wr.alloc (.cells #[.string sx,.int .u32 ax] 167):=⟨_,rfl⟩;have g0:WA.cell? ⟨q,0,none⟩=some (.string sx):=by rw[hWA,hq];simp[go_sem]
   have g1:WA.cell? ⟨q,1,none⟩=some (.int .u32 ax):=by rw[hWA,hq];simp[go_sem]
   have hqA:q<WA.heap.size:=by rw[hWA,hq];simp
   have HBA:=Lib.hid (show Below w2.heap.size w2 WA from by rw[hWA];exact Bel.al HB.out _);have hcv:=fun W:World=>Go.Lib.run_convert_string_bytes (P:=Tryz.prog) W 9 24 5 sx Tryz.underlying9 Tryz.underlying24 Tryz.underlying5;have HS0:=Lib.hid (show WA.cell? ⟨q,0,none⟩=some (.string sx)∧WA.cell? ⟨q,1,none⟩=some (.int .u32 ax)∧Below WA.heap.size WA WA from⟨g0,g1,Below.refl _ _⟩)
   have KC:=Lib.hid (show∀W W':World,Below W.heap.size W W'→(W.cell? ⟨q,0,none⟩=some (.string sx)∧W.cell? ⟨q,1,none⟩=some (.int .u32 ax)∧Below WA.heap.size WA W)→(W'.cell? ⟨q,0,none⟩=some (.string sx)∧W'.cell? ⟨q,1,none⟩=some (.int .u32 ax)∧Below WA.heap.size WA W')from
    fun W W' hb ⟨e1,e2,e3⟩=>⟨(hb.cell (p:=⟨q,0,none⟩) (Nat.lt_of_lt_of_le hqA e3.size)).trans e1,(hb.cell (p:=⟨q,1,none⟩) (Nat.lt_of_lt_of_le hqA e3.size)).trans e2,Bel.tr e3 hb⟩)
   rw[←hq,←hWA];have Hq:=Lib.hid hq;have HWA:=Lib.hid hWA;have hsz:(IntKind.u8.wrap (sx.size:Int))=((sx.size%256:Nat):Int):=by rw[IntKind.wrap_u8];omega
   have HS1:=Lib.hid (show WA.drew.cell? ⟨q,0,none⟩=some (.string sx)∧WA.drew.cell? ⟨q,1,none⟩=some (.int .u32 ax)∧Below WA.heap.size WA WA.drew from⟨g0,g1,(Below.refl _ _).drew⟩);clear hq hWA n0 n1;rw[show∀x,Op.convert 9 24 x=cvS x from fun _=>rfl];have KB0:=Lib.hid (show∀W,Below WA.heap.size WA W→Bytes W (.slice au (namesB (m.lx.take k)).length cu) (namesB (m.lx.take k))from fun W hW=>((own_bytes HO.out (namesB_lt _)).below (by rw[HWA.out];exact Bel.new _ _)).below hW)
   have Hlen:Hid ((namesB (m.lx.take k)).length+(le4 ax).length+[sx.size%256].length+(byN sx).length≤100000000):=Lib.hid (by
    have:=Hnl.out k (by omega);rw[le4_length,byN_length];simp only[List.length_cons,List.length_nil]
    omega)
   have Hfin:Hid (∀(W W2:World) (v:Value),W.ownsRow W2.heap.size 5 1 v ((namesB (m.lx.take k)).length+(le4 ax).length+[sx.size%256].length+(byN sx).length) (encN .u8 (namesB (m.lx.take k)++le4 ax++[sx.size%256]++byN sx))→Below WA.heap.size WA W2→W.ownsRow w2.heap.size 5 1 v (namesB (m.lx.take (k+1))).length (encN .u8 (namesB (m.lx.take (k+1))))):=Lib.hid (fun W W2 v ho hb=>by
    rw[Ht.out,nameB,List.length_append,List.length_append,List.length_append,←Nat.add_assoc,←Nat.add_assoc,←List.append_assoc,←List.append_assoc]
    exact own_down ho (Bel.tr HBA.out hb).size)
   go_region_held3(fun w'=>w'.cell? ⟨q,0,none⟩=some (.string sx)∧w'.cell? ⟨q,1,none⟩=some (.int .u32 ax)∧Below WA.heap.size WA w')
    (first|exact HS1.out|exact HS0.out|assumption|exact KC.out _ _ (Bel.new _ _) (by assumption)|exact KC.out _ _ (below_bytes _ _) (by assumption)|exact KC.out _ _ (by assumption) (by assumption))
    (first
     | ((go_at_call 112;refine(put4_one _ ax hx3 _ ?_).mono ?_;(repeat(first|exact cell1_new _ _ _ (by simp)|(with_reducible refine cell_dr ?_)|(with_reducible refine cell_alE ?_)|(with_reducible refine cell_by ?_)|(with_reducible refine cell_be (by assumption) ?_)));rintro e w'⟨va,rfl,oa,hba⟩;obtain⟨aa,ca,rfl,-⟩:=own_sl oa))
     | ((go_at_call 111;refine(concat4 _ _ _ _ _ (namesB (m.lx.take k)) (le4 ax) [sx.size%256] (byN sx) ?_ ?_ ?_ ?_ ?_).mono ?_;(exact Hlen.out);(refine KB0.out _ ?_;(repeat(first|exact Below.refl _ _|assumption|(with_reducible refine Bel.al ?_ _)|(with_reducible refine Bel.dr ?_)|(with_reducible refine bel_by ?_)|(with_reducible refine Bel.tr ?_ (by assumption)))));(refine(own_bytes oa (le4_lt _)).below ?_;(repeat(first|exact Below.refl _ _|assumption|(with_reducible refine Bel.al ?_ _)|(with_reducible refine Bel.dr ?_)|(with_reducible refine bel_by ?_)|(with_reducible refine Bel.tr ?_ (by assumption)))));(refine(own_bytes ob (fun y hy=>by rw[List.mem_singleton.1 hy];omega)).below ?_;(repeat(first|exact Below.refl _ _|assumption|(with_reducible refine Bel.al ?_ _)|(with_reducible refine Bel.dr ?_)|(with_reducible refine bel_by ?_)|(with_reducible refine Bel.tr ?_ (by assumption)))));(refine(bytes_conv _ sx (by omega) (by simp) rfl).below ?_;(repeat(first|exact Below.refl _ _|assumption|(with_reducible refine Bel.al ?_ _)|(with_reducible refine Bel.dr ?_)|(with_reducible refine bel_by ?_)|(with_reducible refine Bel.tr ?_ (by assumption)))));rintro e w'⟨vf,rfl,of,hbf⟩;obtain⟨af,cf,rfl,-⟩:=own_sl of))
     | ((go_at_call 113;refine(put8_one _ (sx.size%256) (by omega) _ ?_).mono ?_;(repeat(first|exact cell1_new _ _ _ (by simp)|(with_reducible refine cell_dr ?_)|(with_reducible refine cell_alE ?_)|(with_reducible refine cell_by ?_)|(with_reducible refine cell_be (by assumption) ?_)));rintro e w'⟨vb,rfl,ob,hbb⟩;obtain⟨ab,cb,rfl,-⟩:=own_sl ob))
)
   all_goals(
    have HF:=Lib.hid (Hfin.out _ _ _ of (by(repeat(first|exact Below.refl _ _|assumption|(with_reducible refine Bel.al ?_ _)|(with_reducible refine Bel.dr ?_)|(with_reducible refine bel_by ?_)|(with_reducible refine Bel.tr ?_ (by assumption))))));have HFB:Hid (Below WA.heap.size WA w'):=Lib.hid (by(repeat(first|exact Below.refl _ _|assumption|(with_reducible refine Bel.al ?_ _)|(with_reducible refine Bel.dr ?_)|(with_reducible refine bel_by ?_)|(with_reducible refine Bel.tr ?_ (by assumption)))));go_wp2_with fail
    go_roundw
    case rel=>exact⟨k+1,by omega,by go_num,HF.out,Bel.tr HBA.out HFB.out⟩
    case measure=>simp[intOf];omega)
  ·obtain rfl:k=m.lx.length:=by omega
   have HOn:=Lib.hid (show wr.ownsRow w2.heap.size 5 1 u8 (namesB m.lx).length (encN .u8 (namesB m.lx))from by
    have:=HO.out
    rwa [List.take_length]at this)
   obtain⟨au,cu,rfl,-⟩:=own_sl HOn.out;have e0:=(HB.out.cell (p:=⟨w.heap.size,0,none⟩) hs2).trans d0;have e1:=(HB.out.cell (p:=⟨w.heap.size,1,none⟩) hs2).trans d1;have e2:=(HB.out.cell (p:=⟨w.heap.size,2,none⟩) hs2).trans d2;have e3:=(HB.out.cell (p:=⟨w.heap.size,3,none⟩) hs2).trans d3;have e4:=(HB.out.cell (p:=⟨w.heap.size,4,none⟩) hs2).trans d4;have hs3:w.heap.size<wr.heap.size:=Nat.lt_of_lt_of_le hs2 hwr;have H3:=Lib.hid (H2.out.below HB.out);have P0:=Lib.hid ((own_bytes HOC.out (encode_lt _ H2.out.c.2)).below HB.out);have P3:=Lib.hid (own_bytes HOn.out (namesB_lt _))
   have HJ:=Lib.hid (show∀W,Below wr.heap.size wr W→Calls Tryz.prog 112 #[.slice aj m.js.length cj] W fun e w'=>∃v,e=.returned v∧w'.ownsRow W.heap.size 5 1 v (4*m.js.length) (encN .u8 (le4s m.js))∧Below W.heap.size W w' from fun W hW=>by
    refine(put_any aj cj m.js (words_lt H3.out.j) W (H3.out.j.1.below hW) (by omega)).mono ?_;rintro e w'⟨v',rfl,hown,hg⟩
    exact⟨v',rfl,own_from hown (fun g e=>(hg.2 g e).resolve_left (by simp[Value.ownBlock])),hg.bel⟩)
   have HS1:=Lib.hid (show wr.drew.cell? ⟨w.heap.size,1,none⟩=some (.slice aj m.js.length cj)∧wr.drew.cell? ⟨w.heap.size,2,none⟩=some (.slice ad m.data.length cd)∧Below wr.heap.size wr wr.drew from⟨e1,e2,Bel.dr (Below.refl _ _)⟩)
   have KC:=Lib.hid (show∀W W':World,Below W.heap.size W W'→(W.cell? ⟨w.heap.size,1,none⟩=some (.slice aj m.js.length cj)∧W.cell? ⟨w.heap.size,2,none⟩=some (.slice ad m.data.length cd)∧Below wr.heap.size wr W)→(W'.cell? ⟨w.heap.size,1,none⟩=some (.slice aj m.js.length cj)∧W'.cell? ⟨w.heap.size,2,none⟩=some (.slice ad m.data.length cd)∧Below wr.heap.size wr W')from
    fun W W' hb ⟨x1,x2,x3⟩=>⟨(hb.cell (p:=⟨w.heap.size,1,none⟩) (Nat.lt_of_lt_of_le hs3 x3.size)).trans x1,(hb.cell (p:=⟨w.heap.size,2,none⟩) (Nat.lt_of_lt_of_le hs3 x3.size)).trans x2,Bel.tr x3 hb⟩)
   have HOC0:=Lib.hid HB.out;clear d0 d1 d2 d3 d4 d5;go_wp2_with fail
   go_region_held3(fun w'=>w'.cell? ⟨w.heap.size,1,none⟩=some (.slice aj m.js.length cj)∧w'.cell? ⟨w.heap.size,2,none⟩=some (.slice ad m.data.length cd)∧Below wr.heap.size wr w')
    (first|exact HS1.out|assumption|exact KC.out _ _ (Bel.new _ _) (by assumption)|exact KC.out _ _ (by assumption) (by assumption))
    ((go_at_call 112;refine(HJ.out _ ?_).mono ?_;(repeat(first|exact Below.refl _ _|assumption|(with_reducible refine Bel.al ?_ _)|(with_reducible refine Bel.dr ?_)|(with_reducible refine bel_by ?_)|(with_reducible refine Bel.tr ?_ (by assumption))));rintro e w3⟨vj,rfl,oj,hbj⟩;obtain⟨aj',cj',rfl,-⟩:=own_sl oj))
   have HBJ:=Lib.hid (show Below wr.heap.size wr w3 from by(repeat(first|exact Below.refl _ _|assumption|(with_reducible refine Bel.al ?_ _)|(with_reducible refine Bel.dr ?_)|(with_reducible refine bel_by ?_)|(with_reducible refine Bel.tr ?_ (by assumption)))));have PJ:=Lib.hid (own_bytes oj (le4s_lt _));have HL:=Lib.hid (lists4 w3 _ _ _ _ _ _ _ _ (P0.out.below HBJ.out) PJ.out (H3.out.d.below HBJ.out) (P3.out.below HBJ.out));obtain⟨q4,hq4⟩:∃q4,q4=w3.heap.size:=⟨_,rfl⟩;obtain⟨W4,hW4⟩:∃W4,W4=w3.alloc (.cells #[.slice auc (encode m.code).length cuc,.slice aj' (4*m.js.length) cj',.slice ad m.data.length cd,.slice au (namesB m.lx).length cu] 24):=⟨_,rfl⟩;have HB4:Hid (Below w.heap.size w W4):=Lib.hid (by rw[hW4];exact Bel.al (Bel.tr (Bel.tr (Bel.tr (HB1.out) HB2.out) HB.out) HBJ.out) _);have HB34:Hid (Below wr.heap.size wr W4):=Lib.hid (by rw[hW4];exact Bel.al HBJ.out _);have f0:=(HB34.out.cell (p:=⟨w.heap.size,0,none⟩) hs3).trans e0;have f3:=(HB34.out.cell (p:=⟨w.heap.size,3,none⟩) hs3).trans e3;have f4:=(HB34.out.cell (p:=⟨w.heap.size,4,none⟩) hs3).trans e4;have hs4:w.heap.size<W4.heap.size:=Nat.lt_of_lt_of_le hs3 HB34.out.size;have HL4:Hid (ListsB W4 q4 [.slice auc (encode m.code).length cuc,.slice aj' (4*m.js.length) cj',.slice ad m.data.length cd,.slice au (namesB m.lx).length cu] (partsI m)):=Lib.hid (by rw[hW4,hq4];exact HL.out);have L0:=encode_len m.code;have L1:=le4s_length m.js;have L3:=Hnl.out m.lx.length (Nat.le_refl _);rw[List.take_length]at L3;unfold roomN at hc5
   have HLs:Hid (∀k,((partsI m).getD k []).length≤200000):=Lib.hid (fun k=>by
    unfold partsI
    match k with
    | 0=>simp;omega
    | 1=>simp;omega
    | 2=>simp;omega
    | 3=>simp;omega
    | k+4=>simp)
   have HLsum:Hid (((partsI m).map List.length).sum≤800000):=Lib.hid (by
    unfold partsI;simp only[List.map_cons,List.map_nil,List.sum_cons,List.sum_nil]
    omega)
   have Hz:=H3.out.z;have Hst:=H3.out.s;rw[←hW4,←hq4];clear hW4 hq4 HL P0 PJ P3 H3 HJ KC HS1 e0 e1 e2 e3 e4 HOn HOC HB1 HB2 HB HBJ HB34 oj HO HOC0 H2 H1 Henc Hnl hc2 hc4 hc7 L0 L1 L3;obtain⟨j0,hj,hy0,hy1,hy2⟩:=info_parts info32;have hqlt:=HL4.out.hq;go_wp2_with fail
   go_loopw[12,70] (fun u i wx=>∃k:Nat,k≤4∧i=.int .i64 k∧wx.ownsRow W4.heap.size 25 1 u k (encN .u32 (((partsI m).map List.length).take k))∧Below W4.heap.size W4 wx) (fun _ i _=>4 - (intOf i).toNat)
   case atStart=>exact⟨0,by omega,rfl,World.ownsRow_nil _ _ _ _,Below.refl _ _⟩
   case round=>
    obtain⟨k,hk,rfl,ho,hb⟩:=hrel;have HO:=Lib.hid ho;have HB:=Lib.hid hb;have HOo:=Lib.hid (own_base ho);clear ho hb;by_cases hlt:k<4
    ·obtain⟨ak,ck,hcell,-⟩:=HL4.out.at k hlt
     have hcell':=(HB.out.cell (p:=⟨q4,k,none⟩) hqlt).trans hcell
     have Ht:Hid (((partsI m).map List.length).take (k+1)=((partsI m).map List.length).take k++[((partsI m).getD k []).length]):=Lib.hid (by
      have hk4:k<(partsI m).length:=hlt;rw[List.take_add_one,List.getElem?_map,List.getElem?_eq_getElem hk4,List.getD_eq_getElem?_getD,List.getElem?_eq_getElem hk4]
      rfl)
     have hle:=HLs.out k;clear hcell;generalize (partsI m).getD k []=pk at*;have hw:IntKind.u32.wrap ((pk.length:Nat):Int)=((pk.length:Nat):Int):=u32_wrap _ (by omega);have hki:(k:Int)<4:=(by omega);have hk0:(0:Int)≤(k:Int):=by omega
     go_wp2_with((with_reducible refine wpList_append1B (o:=⟨some 79,.call {callee:=.builtin .append,args:=#[.tmp 74,.tmp 78],argTypes:=#[23,23]},_,_,_,none⟩) rfl _ _ 23 rfl 25 j0 (.int .u32 0) 1 4 Tryz.underlying23 hj hy0 hy1 hy2 ?_ ?_ _ _ _ HOo.out _ _ wr.heap.size ?_ ?_ ?_ ?_ ?_ ?_ ?_ ?_);rfl;decide;rfl;rfl;rfl;rfl;(simp[Value.oneCell']);(unfold maxLen;omega);omega;intro g c w5 hr1 hg1 hl1)
     go_roundw
     case rel=>exact⟨k+1,by omega,by go_num,by
      rw[Ht.out,encN_append]
      exact own_from hr1 (fun g' e=>by
       rcases hg1.2 g' e with h'|h'
       ·exact(HO.out.lt g' h').1
       ·have:=HB.out.size;omega),HB.out.grown hg1.1 HB.out.size (fun g' e=>(HO.out.lt g' e).1)⟩
     case measure=>simp[intOf];omega
    ·obtain rfl:k=4:=by omega
     have hl4:((partsI m).map List.length).length=4:=rfl
     have HW:=Lib.hid (show Words wr (u12) ((partsI m).map List.length)from by
      have h:=HO.out;rw[List.take_of_length_le (Nat.le_of_eq hl4)]at h
      exact⟨Reads.own (own_base h) (by decide),fun j=>by
       have:=HLs.out j
       have e:((partsI m).map List.length).getD j 0=((partsI m).getD j []).length:=by
        simp only[List.getD_eq_getElem?_getD,List.getElem?_map];cases(partsI m)[j]?<;>rfl
       omega⟩)
     have HY:=Lib.hid (laySpans_any _ 64 ((partsI m).map List.length) (by rw[hl4];decide) (by have:=HLsum.out;omega) wr HW.out);have g0:=(HB.out.cell (p:=⟨w.heap.size,0,none⟩) hs4).trans f0;have g3:=(HB.out.cell (p:=⟨w.heap.size,3,none⟩) hs4).trans f3;have g4:=(HB.out.cell (p:=⟨w.heap.size,4,none⟩) hs4).trans f4;have hs5:w.heap.size<wr.heap.size:=Nat.lt_of_lt_of_le hs4 HB.out.size;clear f0 f3 f4 HW HO HOo;go_wp2_with fail;refine HY.out.mono ?_;rintro e w5⟨us,rfl,os,hb5⟩;have HOS:=Lib.hid os;have HB5:=Lib.hid hb5;obtain⟨sa,sc,rfl,-⟩:=own_sl os;have h0:=(hb5.cell (p:=⟨w.heap.size,0,none⟩) hs5).trans g0;have h3:=(hb5.cell (p:=⟨w.heap.size,3,none⟩) hs5).trans g3;have h4:=(hb5.cell (p:=⟨w.heap.size,4,none⟩) hs5).trans g4;have hs6:w.heap.size<w5.heap.size:=Nat.lt_of_lt_of_le hs5 hb5.size;clear g0 g3 g4 os hb5 HY;have hwc:IntKind.u32.wrap ((m.code.length:Nat):Int)=((m.code.length:Nat):Int):=u32_wrap _ (by omega);have hcc:=Go.Lib.run_convert_bytes_const (P:=Tryz.prog) w5 24 5 #[.int .u8 80,.int .u8 69,.int .u8 78,.int .u8 33] 4 4 Tryz.underlying24 Tryz.underlying5;go_wp2_with fail;refine(put_at [1,0,m.code.length] ?_ ?_ ?_ ?_ ?_).mono ?_
     ·simp;omega
     ·simp
     ·simp
     ·rfl
     ·rfl
     rintro e w6⟨uh,rfl,oh,hb6⟩;obtain⟨ha,hcp,rfl,-⟩:=own_sl oh;have PH:=Lib.hid (own_bytes oh (le4s_lt _));have P4:=Lib.hid ((bytes_new [80,69,78,33] (by decide) (by decide) w5 4 rfl _ _ rfl).below hb6);have HB6:=Lib.hid (Bel.tr (Bel.new _ _) hb6);have HL6:=Lib.hid (HL4.out.below (Bel.tr (Bel.tr HB.out HB5.out) HB6.out));have HBw6:=Lib.hid (Bel.tr (Bel.tr (Bel.tr HB4.out HB.out) HB5.out) HB6.out);clear oh hb6;go_wp2_with fail;refine(concat2 w6 _ _ [80,69,78,33] (le4s [1,0,m.code.length]) (by rw[List.length_append,le4s_length];simp) P4.out PH.out).mono ?_;rintro e w7⟨ux,rfl,ox,hb7⟩;obtain⟨sp,hsp⟩:∃sp,sp=spansL 64 ((partsI m).map List.length):=⟨_,rfl⟩;have Hspl:sp.length=4:=(by rw[hsp,spansL_length];exact hl4);have Hspb:=Lib.hid (spansL_lt 4294967296 ((partsI m).map List.length) 64 (by have:=HLsum.out;omega));rw[←hsp]at HOS Hspb;have Hsp:=Lib.hid hsp
     have HX:=Lib.hid (show w7.ownsRow w6.heap.size 5 1 ux (16+8*0) (encN .u8 (headI m++flatS (sp.take 0)))from by
      rw[show(([80,69,78,33]:List Nat)++le4s [1,0,m.code.length]).length=16+8*0 from by rw[List.length_append,le4s_length];rfl]at ox;rw[List.take_zero,show flatS []=[]from rfl,List.append_nil]
      exact ox)
     have HHl:Hid ((headI m).length=16):=Lib.hid (by unfold headI;rw[List.length_append,le4s_length];rfl);have HB7:=Lib.hid hb7;have PS:=Lib.hid (Reads.own (own_base HOS.out) (by decide):Reads w5 2 (.slice sa ((partsI m).map List.length).length sc) _ _);clear hsp ox hb7 P4 PH;rw[hl4]at PS;obtain⟨i0,hi,hz0,hz1,hz2⟩:=info_parts info5;obtain⟨a',c',he,-,-,-,-,hp⟩:=PS.out;cases he;obtain⟨b5,o5,rfl,hbl5,hc⟩:=hp (by decide);have HC5:=Lib.hid hc;have hb56:b5<w6.heap.size:=Nat.lt_of_lt_of_le hbl5 HB6.out.size;have hs7:w.heap.size<w6.heap.size:=Nat.lt_of_lt_of_le hs6 HB6.out.size;clear hp hc PS HOS;go_wp2_with fail
     go_loopw[16,101] (fun u i wr=>∃k:Nat,k≤4∧i=.int .i64 k∧wr.ownsRow w6.heap.size 5 1 u (16+8*k) (encN .u8 (headI m++flatS (sp.take k)))∧Below w6.heap.size w6 wr) (fun _ i _=>4 - (intOf i).toNat)
     case atStart=>exact⟨0,by omega,rfl,HX.out,HB7.out⟩
     case round=>
      obtain⟨k,hk,rfl,ho,hb⟩:=hrel;have HO:=Lib.hid ho;have HB:=Lib.hid hb;clear ho hb;by_cases hlt:k<4
      ·obtain⟨x1,x2⟩:=encS_at sp k (by omega)
       have n0:=(HB.out.cell (p:=⟨b5,o5+k*2,none⟩) hb56).trans ((HB6.out.cell (p:=⟨b5,o5+k*2,none⟩) hbl5).trans ((HC5.out (k*2) (by rw[encS_length];omega)).trans x1));have n1:wr.cell? ⟨b5,o5+k*2+1,none⟩=some (.int .u32 (sp.getD k (0,0)).2):=(HB.out.cell (p:=⟨b5,o5+k*2+1,none⟩) hb56).trans ((HB6.out.cell (p:=⟨b5,o5+k*2+1,none⟩) hbl5).trans ((by rw[Nat.add_assoc];exact HC5.out (k*2+1) (by rw[encS_length];omega):w5.cell? ⟨b5,o5+k*2+1,none⟩=_).trans x2));have Ht:=Lib.hid (flatS_take sp k (by omega))
       have hlt1:(sp.getD k (0,0)).1<4294967296∧(sp.getD k (0,0)).2<4294967296:=by
        have hks:k<sp.length:=(by omega);rw[List.getD_eq_getElem?_getD,List.getElem?_eq_getElem hks];exact Hspb.out _ (List.getElem_mem hks)
       clear x1 x2;generalize sp.getD k (0,0)=sk at*;obtain⟨s1,s2⟩:=sk;simp only at*;have hki:(k:Int)<4:=(by omega);have hk0:(0:Int)≤(k:Int):=(by omega);obtain⟨au2,cu2,rfl,-⟩:=own_sl HO.out;go_wp2_with fail;refine(put_at [s1,s2] ?_ ?_ ?_ ?_ ?_).mono ?_
       ·simp;omega
       ·simp
       ·simp
       ·rfl
       ·rfl
       rintro e w8⟨up,rfl,op,hb8⟩;have HBc:=Lib.hid (Bel.of hb8);have HOc:=Lib.hid (own_below (own_base HO.out) HBc.out);have Hop:Hid (Reads w8 1 up 8 (encN .u8 (le4s [s1,s2]))):=Lib.hid (Reads.own (own_base op) (by decide));have Hone:=Lib.hid (encN_one .u8 (le4s [s1,s2]));clear op hb8
       go_wp2_with((with_reducible refine wpList_append_reads (o:=⟨some 112,.call {callee:=.builtin .append,args:=#[.tmp 105,.tmp 111],argTypes:=#[24,24]},_,_,_,none⟩) rfl _ _ 24 rfl 5 i0 (.int .u8 0) 1 1 Tryz.underlying24 hi hz0 hz1 hz2 ?_ ?_ _ _ _ ?_ HOc.out _ _ _ ?_ Hop.out Hone.out ?_ ?_ ?_);rfl;decide;rfl;rfl;(unfold maxLen;omega);omega;intro v3 w9 o3 g3)
       have HB9:=Lib.hid (Bel.tr HB.out HBc.out)
       go_roundw
       case rel=>exact⟨k+1,by omega,by go_num,by
        rw[Ht.out,←List.append_assoc,encN_append,show 16+8*(k+1)=16+8*k+8 from by omega]
        exact own_from o3 (fun g e=>by
         rcases g3.2 g e with h'|h'
         ·exact(HO.out.lt g h').1
         ·have:=HB9.out.size;omega),HB9.out.grown g3.1 HB9.out.size (fun g e=>(HO.out.lt g e).1)⟩
       case measure=>simp[intOf];omega
      ·obtain rfl:k=4:=by omega
       have htk:sp.take 4=sp:=List.take_of_length_le (by omega)
       have HO2:=Lib.hid (show wr.ownsRow w6.heap.size 5 1 u16 48 (encN .u8 (headI m++flatS sp))from by
        have:=HO.out
        rwa [htk]at this)
       have i3:=(HB.out.cell (p:=⟨w.heap.size,3,none⟩) hs7).trans ((HB6.out.cell (p:=⟨w.heap.size,3,none⟩) hs6).trans h3);have i4:=(HB.out.cell (p:=⟨w.heap.size,4,none⟩) hs7).trans ((HB6.out.cell (p:=⟨w.heap.size,4,none⟩) hs6).trans h4);clear HO htk h3 h4 HX HC5 h0;obtain⟨au2,cu2,rfl,-⟩:=own_sl HO2.out;go_wp2_with fail;refine(put_at [m.zero,m.stack,0,0] ?_ ?_ ?_ ?_ ?_).mono ?_
       ·simp;omega
       ·simp
       ·rfl
       ·rfl
       ·rfl
       rintro e w8⟨up,rfl,op,hb8⟩;have HBc:=Lib.hid (hb8);have HOc:=Lib.hid (own_below (own_base HO2.out) HBc.out);have Hop:Hid (Reads w8 1 up 16 (encN .u8 (le4s [m.zero,m.stack,0,0]))):=Lib.hid (Reads.own (own_base op) (by decide));have Hone:=Lib.hid (encN_one .u8 (le4s [m.zero,m.stack,0,0]));clear op hb8
       go_wp2_with((with_reducible refine wpList_append_reads (o:=⟨some 121,.call {callee:=.builtin .append,args:=#[.tmp 114,.tmp 120],argTypes:=#[24,24]},_,_,_,none⟩) rfl _ _ 24 rfl 5 i0 (.int .u8 0) 1 1 Tryz.underlying24 hi hz0 hz1 hz2 ?_ ?_ _ _ _ ?_ HOc.out _ _ _ ?_ Hop.out Hone.out ?_ ?_ ?_);rfl;decide;rfl;rfl;(unfold maxLen;omega);omega;intro v3 w9 o3 g3)
       have HB9:=Lib.hid ((Bel.tr HB.out HBc.out).grown g3.1 (Bel.tr HB.out HBc.out).size (fun g e=>(HO2.out.lt g e).1))
       have HX9:=Lib.hid (show w9.ownsRow w6.heap.size 5 1 v3 64 (encN .u8 (headI m++flatS sp++le4s [m.zero,m.stack,0,0]))from by
        rw[encN_append]
        exact own_from o3 (fun g e=>by
         rcases g3.2 g e with h'|h'
         ·exact(HO2.out.lt g h').1
         ·have:=(Bel.tr HB.out HBc.out).size;omega))
       have HHr:Hid (headI m++flatS sp++le4s [m.zero,m.stack,0,0]++(partsI m).flatten=rawI m):=Lib.hid (by
        rw[rawI,Hsp.out,flatS,List.flatMap_id,List.append_assoc,List.append_assoc])
       have HLl:Hid ((headI m++flatS sp++le4s [m.zero,m.stack,0,0]).length=64∧∀x∈headI m++flatS sp++le4s [m.zero,m.stack,0,0],x<256):=Lib.hid ⟨by
        rw[List.length_append,List.length_append,le4s_length,flatS_length,HHl.out,Hspl];rfl,fun x hx=>by
        rcases List.mem_append.1 hx with hx|hx
        ·rcases List.mem_append.1 hx with hx|hx
         ·unfold headI at hx
          rcases List.mem_append.1 hx with hx|hx
          ·have:∀y∈([80,69,78,33]:List Nat),y<256:=by decide
           exact this x hx
          ·exact le4s_lt _ x hx
         ·exact flatS_lt _ x hx
        ·exact le4s_lt _ x hx⟩
       clear HO2 i3 i4 HB HBc HOc Hop Hone o3 g3;generalize headI m++flatS sp++le4s [m.zero,m.stack,0,0]=Lp at*;have HPt:Hid ((partsI m).flatten.length≤800000):=Lib.hid (by rw[List.length_flatten];exact HLsum.out)
       go_loopw[16,124] (fun u i wr=>∃k N:Nat,k≤4∧i=.int .i64 k∧N=((partsI m).take k).flatten.length∧wr.ownsRow w6.heap.size 5 1 u (64+N) (encN .u8 (Lp++((partsI m).take k).flatten))∧Below w6.heap.size w6 wr) (fun _ i _=>4 - (intOf i).toNat)
       case atStart=>exact⟨0,0,by omega,rfl,rfl,by rw[List.take_zero,List.flatten_nil,List.append_nil];exact HX9.out,HB9.out⟩
       case round=>
        obtain⟨k,N,hk,rfl,hN,ho,hb⟩:=hrel;have HO:=Lib.hid ho;have HB:=Lib.hid hb;have HN:=Lib.hid hN;clear ho hb hN;by_cases hlt:k<4
        ·have hkl:k<(partsI m).length:=hlt
         obtain⟨ak,ck,hcell,hbs⟩:=HL6.out.at k hkl;have hcell':=(HB.out.cell (p:=⟨q4,k,none⟩) HL6.out.hq).trans hcell;have Hbs:=Lib.hid ((hbs.below HB.out).1);have Ht:=Lib.hid (flat_take (partsI m) k hkl);have hle:=flat_le (partsI m) (k+1);rw[Ht.out,List.length_append,←HN.out]at hle;have hle2:N+((partsI m).getD k []).length≤800000:=Nat.le_trans hle HPt.out;clear hcell hbs hle hkl;generalize (partsI m).getD k []=pk at*;have Hone:=Lib.hid (encN_one .u8 pk);have HOo:=Lib.hid (own_base HO.out);have hki:(k:Int)<4:=(by omega);have hk0:(0:Int)≤(k:Int):=(by omega);obtain⟨au2,cu2,rfl,-⟩:=own_sl HO.out
         go_wp2_with((with_reducible refine wpList_append_reads (o:=⟨some 130,.call {callee:=.builtin .append,args:=#[.tmp 128,.tmp 129],argTypes:=#[24,24]},_,_,_,none⟩) rfl _ _ 24 rfl 5 i0 (.int .u8 0) 1 1 Tryz.underlying24 hi hz0 hz1 hz2 ?_ ?_ _ _ _ ?_ HOo.out _ _ _ ?_ Hbs.out Hone.out ?_ ?_ ?_);rfl;decide;rfl;rfl;(unfold maxLen;omega);omega;intro v4 w10 o4 g4)
         go_roundw
         case rel=>exact⟨k+1,N+pk.length,by omega,by go_num,by rw[Ht.out,List.length_append,←HN.out],by
          rw[Ht.out,←List.append_assoc,encN_append,←Nat.add_assoc]
          exact own_from o4 (fun g e=>by
           rcases g4.2 g e with h'|h'
           ·exact(HO.out.lt g h').1
           ·have:=HB.out.size;omega),HB.out.grown g4.1 HB.out.size (fun g e=>(HO.out.lt g e).1)⟩
         case measure=>simp[intOf];omega
        ·obtain rfl:k=4:=by omega
         have htk:(partsI m).take 4=partsI m:=List.take_of_length_le (Nat.le_refl 4);have hO:=HO.out;have hn:=HN.out;have hLl:=HLl.out;rw[htk]at hO hn
         have hplt:∀x∈(partsI m).flatten,x<256:=by
          intro x hx;obtain⟨l,hl,hx⟩:=List.mem_flatten.1 hx;obtain⟨j,hj,rfl⟩:=List.getElem_of_mem hl;obtain⟨_,_,_,hbs⟩:=HL6.out.at j hj;have:=hbs.2;rw[List.getD_eq_getElem?_getD,List.getElem?_eq_getElem hj]at this;exact this x hx
         have HS:=Lib.hid (sealed_any u16 (Lp++(partsI m).flatten) (by rw[List.length_append];omega) (by have:=HPt.out;rw[List.length_append];omega) wr (own_bytes hO (fun x hx=>(List.mem_append.1 hx).elim (hLl.2 x) (hplt x))));rw[HHr.out]at HS;clear hO hn hLl htk hplt;go_wp2_with fail;refine HS.out.mono ?_;rintro e w11⟨uz,rfl,oz,hbz⟩;go_wp2_with fail;go_ret2;exact⟨_,rfl,own_down oz (Bel.tr HBw6.out HB.out).size,Bel.tr (Bel.tr HBw6.out HB.out) hbz⟩
end Go.Proofs.YtdffaepbkecoeaaGreat
namespace Go.Proofs.YtdffaepbkecoeaaGreat
open Go.RowKit
set_option linter.unusedVariables false
def bitsFrom (n:Nat):Nat→Nat→Nat
 | 0,k=>k
 | f+1,k=>if 2 ^ k<n then bitsFrom n f (k+1)else k
def bitsI (m:Img):Nat:=bitsFrom (roomN m) 8 8
theorem bitsFrom_spec (n:Nat):∀(f k:Nat),n≤2 ^ (k+f)→k≤bitsFrom n f k∧bitsFrom n f k≤k+f∧n≤2 ^ bitsFrom n f k
 | 0,k,h=>⟨Nat.le_refl _,Nat.le_refl _,h⟩
 | f+1,k,h=>by
  unfold bitsFrom
  split
  ·obtain⟨h1,h2,h3⟩:=bitsFrom_spec n f (k+1) (by rw[show k+1+f=k+(f+1)from by omega];exact h)
   exact⟨by omega,by omega,h3⟩
  ·exact⟨Nat.le_refl _,by omega,by omega⟩
theorem bitsI_spec {m:Img} (h:roomN m≤65536):8≤bitsI m∧bitsI m≤16∧roomN m≤2 ^ bitsI m:=bitsFrom_spec (roomN m) 8 8 (by simpa using h)
theorem bits_any (vc vj vd vn:Value) (m:Img) (hm:checkI m=0) (hr:roomN m≤65536) (w:World) (h:ImgAt w vc vj vd vn m) :
 Calls Tryz.prog 60 #[.agg #[vc,vj,vd,.int .u32 m.zero,.int .u32 m.stack,vn]] w fun e w'=>e=.returned (.tuple #[.int .i64 (bitsI m),.int .i64 0])∧Below w.heap.size w w':=by
 have hb0:=Bel.new w (.cells #[vc,vj,vd,.int .u32 m.zero,.int .u32 m.stack,vn] 28);obtain⟨W0,hW0⟩:∃W0,W0=w.alloc (.cells #[vc,vj,vd,.int .u32 m.zero,.int .u32 m.stack,vn] 28):=⟨_,rfl⟩;have HK:=Lib.hid (imgCheck_any vc vj vd vn m W0 (by rw[hW0];exact h.below hb0));rw[hm]at HK;have HC:=Lib.hid (cells_new6 w vc vj vd (.int .u32 m.zero) (.int .u32 m.stack) vn 28);have HB0:=Lib.hid (show Below w.heap.size w W0 from by rw[hW0];exact hb0);have hs0:w.heap.size<W0.heap.size:=by rw[hW0];simp
 obtain⟨ac,cc,rfl,-⟩:=h.c.1;obtain⟨aj,cj,rfl,-⟩:=h.j.1;obtain⟨ad,cd,rfl,-,-,hdm,-,-⟩:=h.d.1;obtain⟨an,cn,rfl,-⟩:=h.n.1;have hz:=h.z;have hst:=h.s;have hdl:m.data.length≤9223372036854775807:=by unfold roomN at hr;omega
 have Hr:=Lib.hid hr;have HR:=Lib.hid (fun W=>room_any m.data.length m.zero m.stack hdl hz hst W);have Hrn:=Lib.hid (show m.data.length+m.zero+m.stack=roomN m from rfl);obtain⟨r,hrr⟩:∃r,r=bitsI m:=⟨_,rfl⟩;rw[←hrr];have Hrr:=Lib.hid (show r=bitsFrom (roomN m) 8 8 from hrr);clear h hb0 hr;go_enter Tryz.func60,Tryz.ntmps60;go_wp2_with fail;rw[←hW0];refine HK.out.mono ?_;rintro e w1⟨rfl,hb1⟩;have c2:w1.cell? ⟨w.heap.size,2,none⟩=some (.slice ad m.data.length cd):=(hb1.cell (p:=⟨w.heap.size,2,none⟩) hs0).trans (by rw[hW0];exact HC.out.2.2.1);have c3:w1.cell? ⟨w.heap.size,3,none⟩=some (.int .u32 m.zero):=(hb1.cell (p:=⟨w.heap.size,3,none⟩) hs0).trans (by rw[hW0];exact HC.out.2.2.2.1);have c4:w1.cell? ⟨w.heap.size,4,none⟩=some (.int .u32 m.stack):=(hb1.cell (p:=⟨w.heap.size,4,none⟩) hs0).trans (by rw[hW0];exact HC.out.2.2.2.2.1);have HB1:=Lib.hid (Bel.tr HB0.out hb1);rw[Hrn.out]at HR;clear hb1 hW0 HC HK hrr;go_wp2_with fail;have hle:roomN m≤65536:=Hr.out;generalize roomN m=N at*
 go_loopw[5] (fun k wr=>∃(j:Nat),k=.int .i64 j∧8≤j∧j≤16∧wr.cell? ⟨w.heap.size,2,none⟩=some (.slice ad m.data.length cd)∧wr.cell? ⟨w.heap.size,3,none⟩=some (.int .u32 m.zero)∧wr.cell? ⟨w.heap.size,4,none⟩=some (.int .u32 m.stack)∧Below w.heap.size w wr∧bitsFrom N (16 - j) j=r) (fun k _=>17 - (intOf k).toNat)
 case atStart=>exact⟨8,rfl,by omega,by omega,c2,c3,c4,HB1.out,Hrr.out.symm⟩
 case round=>
  obtain⟨j,rfl,hj1,hj2,d2,d3,d4,hbw,hbj⟩:=hrel;have Hbj:=Lib.hid hbj;have Hbw:=Lib.hid hbw;clear hbj c2 c3 c4 hbw;have hj:j=8∨j=9∨j=10∨j=11∨j=12∨j=13∨j=14∨j=15∨j=16:=by omega
  have HS:=Lib.hid (show wr.cell? ⟨w.heap.size,2,none⟩=some (.slice ad m.data.length cd)∧wr.cell? ⟨w.heap.size,3,none⟩=some (.int .u32 m.zero)∧wr.cell? ⟨w.heap.size,4,none⟩=some (.int .u32 m.stack)from⟨d2,d3,d4⟩);have w8:IntKind.u64.wrap 256=256:=by decide
  have w9:IntKind.u64.wrap 512=512:=by decide
  have w10:IntKind.u64.wrap 1024=1024:=by decide
  have w11:IntKind.u64.wrap 2048=2048:=by decide
  have w12:IntKind.u64.wrap 4096=4096:=by decide
  have w13:IntKind.u64.wrap 8192=8192:=by decide
  have w14:IntKind.u64.wrap 16384=16384:=by decide
  have w15:IntKind.u64.wrap 32768=32768:=by decide
  have w16:IntKind.u64.wrap 65536=65536:=by decide
  have hb:=Hbj.out;obtain⟨M,hM⟩:∃M:Nat,M=2 ^ j:=⟨_,rfl⟩;have HM:=Lib.hid hM;by_cases hlt:2 ^ j<N
  ·have hj16:j<16:=by
    by_cases e:j=16
    ·subst e;simp at hlt;omega
    ·omega
   have hbn:bitsFrom N (16 - (j+1)) (j+1)=r:=by
    rw[←hb,show 16 - j=(16 - (j+1))+1 from by omega,bitsFrom,if_pos hlt]
   have Hbn:=Lib.hid hbn;have hN:M<N:=by rw[hM];exact hlt
   have hI:(M:Int)<(N:Int):=by omega
   have hdl:decide ((M:Int)<(N:Int))=true:=decide_eq_true hI;clear hb hbn hlt hj1 hj2;rcases hj with rfl|rfl|rfl|rfl|rfl|rfl|rfl|rfl|rfl
   all_goals first
    | omega
    | (simp only[Nat.reducePow]at hM
       subst hM;go_wp2
       go_region_held3(fun w'=>w'.cell? ⟨w.heap.size,2,none⟩=some (.slice ad m.data.length cd)∧w'.cell? ⟨w.heap.size,3,none⟩=some (.int .u32 m.zero)∧w'.cell? ⟨w.heap.size,4,none⟩=some (.int .u32 m.stack))
        (first|exact HS.out|assumption) ((go_at_call 100;refine(HR.out _).mono ?_;rintro e w'⟨rfl,rfl⟩))
       go_wp2
       go_roundw
       case rel=>exact⟨_,by go_num,by omega,by omega,d2,d3,d4,Hbw.out.drew,Hbn.out⟩
       case measure=>simp[intOf])
  ·have hbr:r=j:=by
    rw[←hb];cases hf:16 - j with
    | zero=>rfl
    | succ f=>rw[bitsFrom,if_neg hlt]
   have Hbr:=Lib.hid hbr;have hN:¬M<N:=by rw[hM];exact hlt
   have hI:¬(M:Int)<(N:Int):=by omega
   have hdl:decide ((M:Int)<(N:Int))=false:=decide_eq_false hI;clear hb hbr hlt hj1 hj2;rcases hj with rfl|rfl|rfl|rfl|rfl|rfl|rfl|rfl|rfl
   all_goals
    simp only[Nat.reducePow]at hM;subst hM;go_wp2
    go_region_held3(fun w'=>w'.cell? ⟨w.heap.size,2,none⟩=some (.slice ad m.data.length cd)∧w'.cell? ⟨w.heap.size,3,none⟩=some (.int .u32 m.zero)∧w'.cell? ⟨w.heap.size,4,none⟩=some (.int .u32 m.stack))
     (first|exact HS.out|assumption) ((go_at_call 100;refine(HR.out _).mono ?_;rintro e w'⟨rfl,rfl⟩))
    go_wp2;go_ret2;exact⟨by rw[Hbr.out];rfl,Hbw.out.drew⟩
attribute [local go_sem] Oper.semAt_some
structure DpsI (w:World) (code:List (Nat×Nat)) (js:List Nat) (R:List Int×List Int×Nat×Nat) (S B b gg:Nat) (vp:Value) (n:Nat) (A:World):Prop where
 bel:Below w.heap.size w A
 box:A.cell? ⟨w.heap.size,0,none⟩=some (.pointer (some ⟨gg,0,none⟩))
 kn:KnP B (S+2) b vp (psTo code code.length) A
 r2:A.cell? ⟨w.heap.size+1,0,none⟩=some (.slice none 0 0)
 r3:A.cell? ⟨w.heap.size+2,0,none⟩=some (.slice none 0 0)
 r4:A.cell? ⟨w.heap.size+3,0,none⟩=some (.int .i64 0)
 r5:A.cell? ⟨w.heap.size+4,0,none⟩=some (.int .i64 0)
 f2:A.frozen? ⟨w.heap.size+1,0,none⟩=false
 f3:A.frozen? ⟨w.heap.size+2,0,none⟩=false
 f4:A.frozen? ⟨w.heap.size+3,0,none⟩=false
 f5:A.frozen? ⟨w.heap.size+4,0,none⟩=false
 lt:S+2<A.heap.size
 st:∃(D ms:List Int) (g c:Nat) (vm:Value),A.cell? ⟨S,0,none⟩=some (.slice (some ⟨g,0,none⟩) code.length c)∧A.cell? ⟨S+1,0,none⟩=some vm∧A.frozen? ⟨S+1,0,none⟩=false∧
  A.ownsRow w.heap.size 3 1 (.slice (some ⟨g,0,none⟩) code.length c) code.length (encZ D)∧A.ownsRow w.heap.size 3 1 vm ms.length (encZ ms)∧Deps D∧ms.length=n∧
  depthsN code js (((psTo code code.length).map (·.1)).drop n) D ms=R∧w.heap.size+5<g∧g<S∧(∀q,vm.ownBlock=some q→S+2<q)
theorem DpsI.calm {w A C:World} {code:List (Nat×Nat)} {js:List Nat} {R:List Int×List Int×Nat×Nat} {S B b gg:Nat} {vp:Value} {n:Nat} (h:DpsI w code js R S B b gg vp n A) {m:Nat} (hm:w.heap.size≤m) (k:Calm m A C):DpsI w code js R S B b gg vp n C:=by
 obtain⟨D,ms,g,c,vm,s1,s2,s3,s4,s5,s6,s7,s8,s9,s10,s11⟩:=h.st
 exact⟨Calm.below h.bel ⟨k.os,k.tape,k.output,k.size,k.cells,fun i hi=>k.block i (by omega)⟩,k.cell h.box,⟨k.cell h.kn.1,k.cell h.kn.2.1,k.own h.kn.2.2⟩,k.cell h.r2,k.cell h.r3,k.cell h.r4,k.cell h.r5,
  (k.frozen h.r2).trans h.f2,(k.frozen h.r3).trans h.f3,(k.frozen h.r4).trans h.f4,(k.frozen h.r5).trans h.f5,Nat.lt_of_lt_of_le h.lt k.size,
  D,ms,g,c,vm,k.cell s1,k.cell s2,(k.frozen s2).trans s3,k.own s4,k.own s5,s6,s7,s8,s9,s10,s11⟩
def DpsPost (R:List Int×List Int×Nat×Nat) (w:World) (e:Ending) (w':World):Prop:=
 Below w.heap.size w w'∧((R.2.2.2≠0∧e=.returned (.tuple #[.slice none 0 0,.slice none 0 0,.int .i64 R.2.2.1,.int .i64 R.2.2.2]))∨
  (R.2.2.2=0∧∃vd vm,e=.returned (.tuple #[vd,vm,.int .i64 0,.int .i64 0])∧w'.ownsRow w.heap.size 3 1 vd R.1.length (encZ R.1)∧w'.ownsRow w.heap.size 3 1 vm R.2.1.length (encZ R.2.1)))
def DpsX (w:World) (R:List Int×List Int×Nat×Nat) (c:Code) (A:World):Prop:=
 c=.ret∧Below w.heap.size w A∧A.cell? ⟨w.heap.size+1,0,none⟩=some (.slice none 0 0)∧A.cell? ⟨w.heap.size+2,0,none⟩=some (.slice none 0 0)∧
  A.cell? ⟨w.heap.size+3,0,none⟩=some (.int .i64 R.2.2.1)∧A.cell? ⟨w.heap.size+4,0,none⟩=some (.int .i64 R.2.2.2)∧R.2.2.2≠0
theorem DpsX.calm {w A C:World} {R:List Int×List Int×Nat×Nat} {c:Code} (h:DpsX w R c A) {m:Nat} (hm:w.heap.size≤m) (k:Calm m A C):DpsX w R c C:=
 ⟨h.1,Calm.below h.2.1 ⟨k.os,k.tape,k.output,k.size,k.cells,fun i hi=>k.block i (by omega)⟩,k.cell h.2.2.1,k.cell h.2.2.2.1,k.cell h.2.2.2.2.1,k.cell h.2.2.2.2.2.1,h.2.2.2.2.2.2⟩
theorem own_formB {w:World} {base e sz n:Nat} {v:Value} {xs:List Value} (h:w.ownsRow base e sz v n xs) (hn:0<n):∃g cap,v=.slice (some ⟨g,0,none⟩) n cap∧base≤g∧g<w.heap.size:=by
 obtain⟨hl,h⟩:=h;rcases h with⟨rfl,rfl⟩|⟨g,cap,cur,rfl,hb,hg,hn,hm,hcs,ht⟩
 ·omega
 ·exact⟨g,cap,rfl,hb,(Array.getElem?_eq_some_iff.1 hg).1⟩
theorem own_cells {w:World} {base e sz n:Nat} {v:Value} {xs:List Value} (h:w.ownsRow base e sz v n xs):∀(j:Nat) (o:Obj),v.ownBlock=some j→w.heap[j]?=some o→o.isCells=true:=by
 intro j o hj ho;obtain⟨hl,h⟩:=h;rcases h with⟨rfl,rfl⟩|⟨g,cap,cur,rfl,hb,hg,hn,hm,hcs,ht⟩
 ·cases hj
 ·simp only[Value.ownBlock,Option.some.injEq]at hj
  subst hj;rw[hg]at ho;cases ho;rfl
theorem own_block {W:World} {B e g n c sz:Nat} {xs:List Value} (h:W.ownsRow B e sz (.slice (some ⟨g,0,none⟩) n c) n xs):∃cur:Array Value,W.heap[g]?=some (.cells cur e (0,0))∧B≤g:=by
 obtain⟨hl,⟨h,_⟩|⟨g',cap,cur,hv,hb,hg,hn,hm,hcs,ht⟩⟩:=h
 ·cases h
 ·cases hv;exact⟨cur,hg,hb⟩
theorem nums_get {ps:List (Nat×Nat×Nat)} {pre rest:List (Nat×Nat×Nat×Nat)} {x:Nat×Nat×Nat×Nat} (h:nums ps=pre++x::rest):pre.length<ps.length∧x.1=pre.length∧ps.getD pre.length (0,0,0)=x.2:=by
 have hl:pre.length<ps.length:=by rw[←nums_length ps,h];simp
 have h1:=nums_at ps pre.length hl;rw[h,List.getElem?_append_right (Nat.le_refl _),Nat.sub_self]at h1;simp only[List.getElem?_cons_zero,Option.some.injEq]at h1;exact⟨hl,by rw[h1],by rw[h1]⟩
theorem depths_any {w:World} {B gg b:Nat} {uc uj:Value} {code:List (Nat×Nat)} {js:List Nat} (hG:GraphAt w B gg b uc uj code js) (hok:FindOk code js [])
 (hlt:∀k,(code.getD k (0,0)).1<256∧(code.getD k (0,0)).2<4294967296) :
 Calls Tryz.prog 110 #[.pointer (some ⟨gg,0,none⟩)] w (DpsPost (flowN code js) w):=by
 obtain⟨ac,cc,hac,-,-,-⟩:=own_sl hG.oc;have hg0:=hG.c0;have hg2:=hG.c2;rw[hac]at hg0;have hgl:gg<w.heap.size:=World.block_lt_of_cell? _ _ hG.c0;obtain⟨W1,hW1⟩:∃W1,W1=(((((w.alloc (.cells #[.pointer (some ⟨gg,0,none⟩)] 177)).alloc (.cells #[.slice none 0 0] 111)).alloc (.cells #[.slice none 0 0] 111)).alloc (.cells #[.int .i64 0] 3)).alloc (.cells #[.int .i64 0] 45)).alloc (.cells #[.int .i64 (-1)] 3):=⟨_,rfl⟩;have hbw1:Below w.heap.size w W1:=by rw[hW1];exact Bel.al (Bel.al (Bel.al (Bel.al (Bel.al (Bel.new _ _) _) _) _) _) _
 have q0:=(hbw1.cell (p:=⟨gg,0,none⟩) hgl).trans hg0;have q2:=(hbw1.cell (p:=⟨gg,2,none⟩) hgl).trans hg2;rw[hW1]at q0 q2;have hcl:=encRes_short hok.he;have h3:=hok.h3;have HG:=Lib.hid hG;have Hok:=Lib.hid hok;have Hlt:=Lib.hid hlt;have H3:=Lib.hid h3;obtain⟨R,hR⟩:∃R,R=flowN code js:=⟨_,rfl⟩;rw[←hR];have HR:=Lib.hid hR;clear hG hok hlt hac h3 hR;refine(callsIn_wide (n:=9)).1 ?_;have h1:(1:Nat)≤9:=by omega
 refine callsIn_of_wp_marks Tryz.func110 rfl trivial ?_ rfl;simp only[Tryz.ntmps110,List.size_toArray,List.length_cons,List.length_nil,Nat.reduceAdd,Nat.reduceSub,Array.replicate_succ,Array.replicate_zero,List.push_toArray,List.append_toArray,List.nil_append,List.cons_append]
 gi_wp2_with fail
 rw[←hW1];have hx5:W1.cell? ⟨w.heap.size+1+1+1+1+1,0,none⟩=some (.int .i64 (-1)):=by rw[hW1];simp[go_sem]
 have hs1:W1.heap.size=w.heap.size+6:=by rw[hW1];simp
 have e0:W1.cell? ⟨w.heap.size,0,none⟩=some (.pointer (some ⟨gg,0,none⟩)):=by rw[hW1];simp[go_sem]
 have e2:W1.cell? ⟨w.heap.size+1,0,none⟩=some (.slice none 0 0):=by rw[hW1];simp[go_sem]
 have e3:W1.cell? ⟨w.heap.size+2,0,none⟩=some (.slice none 0 0):=by rw[hW1];simp[go_sem]
 have e4:W1.cell? ⟨w.heap.size+3,0,none⟩=some (.int .i64 0):=by rw[hW1];simp[go_sem]
 have e5:W1.cell? ⟨w.heap.size+4,0,none⟩=some (.int .i64 0):=by rw[hW1];simp[go_sem]
 have z2:W1.frozen? ⟨w.heap.size+1,0,none⟩=false:=by rw[hW1];simp[go_sem]
 have z3:W1.frozen? ⟨w.heap.size+2,0,none⟩=false:=by rw[hW1];simp[go_sem]
 have z4:W1.frozen? ⟨w.heap.size+3,0,none⟩=false:=by rw[hW1];simp[go_sem]
 have z5:W1.frozen? ⟨w.heap.size+4,0,none⟩=false:=by rw[hW1];simp[go_sem]
 have HRp:=Lib.hid (repeat_any hx5 code.length (by omega));have Hbw1:=Lib.hid hbw1;clear hbw1 hW1 q0 q2 hx5;refine⟨trivial,?_⟩;refine(callsIn_wide.2 HRp.out).mono ?_;rintro e w2⟨vd,rfl,ho2,hb2⟩;obtain⟨ad,cd,rfl,-,-,hpd⟩:=own_sl ho2;obtain⟨g,rfl,hgd,-⟩:=hpd H3.out.1;have hgS:g<w2.heap.size:=hgd;have hg1:W1.heap.size≤g:=(ho2.lt g rfl).1;obtain⟨S,hS⟩:∃S,S=w2.heap.size:=⟨_,rfl⟩;have hbw2:Below w.heap.size w w2:=Bel.tr Hbw1.out hb2;have hs2:=hb2.size;obtain⟨W5,hW5⟩:∃W5,W5=((w2.alloc (.cells #[.slice (some ⟨g,0,none⟩) code.length cd] 111)).alloc (.cells #[.slice none 0 0] 111)):=⟨_,rfl⟩;have hb5:Below w2.heap.size w2 W5:=by rw[hW5];exact Bel.al (Bel.new _ _) _
 have q0:=((Bel.tr hbw2 hb5).cell (p:=⟨gg,2,none⟩) hgl).trans hg2;have qb:=(hb5.cell (p:=⟨w.heap.size,0,none⟩) (by show w.heap.size<w2.heap.size;omega)).trans ((hb2.cell (p:=⟨w.heap.size,0,none⟩) (by show w.heap.size<W1.heap.size;omega)).trans e0);rw[hW5]at q0 qb;clear hpd hgd
 gi_wp2_with fail
 rw[←hW5];refine⟨trivial,?_⟩;refine(callsIn_wide.2 (all_any _ _)).mono ?_;rintro e w6⟨rfl,rfl⟩;have hs5:W5.heap.size=w2.heap.size+2:=by rw[hW5];simp
 obtain⟨W6,hW6⟩:∃W6,W6=W5.alloc (.cells #[.pointer (some ⟨b,0,none⟩)] 110):=⟨_,rfl⟩;have hb6:Below w2.heap.size w2 W6:=by rw[hW6];exact Bel.al hb5 _
 have hbw6:Below w.heap.size w W6:=Bel.tr hbw2 hb6;have hb16:Below W1.heap.size W1 W6:=Bel.tr hb2 hb6;obtain⟨B',hB',vp,vo,vt,us,hP⟩:=HG.out.p
 have hI0:DpsI w code js R w2.heap.size B' b gg vp 0 W6:=by
  have hp:=(hP.below hbw6);refine⟨hbw6,?_,⟨?_,hp.c0,hp.op⟩,?_,?_,?_,?_,?_,?_,?_,?_,?_,List.replicate code.length (-1),[],g,cd,.slice none 0 0,?_,?_,?_,?_,World.ownsRow_nil _ _ _ _,deps_none _,rfl,?_,by omega,hgS,fun q e=>by cases e⟩
  ·exact(hb16.cell (p:=⟨w.heap.size,0,none⟩) (by show w.heap.size<W1.heap.size;omega)).trans e0
  ·rw[hW6,←hs5];simp[go_sem]
  ·exact(hb16.cell (p:=⟨w.heap.size+1,0,none⟩) (by show w.heap.size+1<W1.heap.size;omega)).trans e2
  ·exact(hb16.cell (p:=⟨w.heap.size+2,0,none⟩) (by show w.heap.size+2<W1.heap.size;omega)).trans e3
  ·exact(hb16.cell (p:=⟨w.heap.size+3,0,none⟩) (by show w.heap.size+3<W1.heap.size;omega)).trans e4
  ·exact(hb16.cell (p:=⟨w.heap.size+4,0,none⟩) (by show w.heap.size+4<W1.heap.size;omega)).trans e5
  ·exact(hb16.frozen (p:=⟨w.heap.size+1,0,none⟩) (by show w.heap.size+1<W1.heap.size;omega)).trans z2
  ·exact(hb16.frozen (p:=⟨w.heap.size+2,0,none⟩) (by show w.heap.size+2<W1.heap.size;omega)).trans z3
  ·exact(hb16.frozen (p:=⟨w.heap.size+3,0,none⟩) (by show w.heap.size+3<W1.heap.size;omega)).trans z4
  ·exact(hb16.frozen (p:=⟨w.heap.size+4,0,none⟩) (by show w.heap.size+4<W1.heap.size;omega)).trans z5
  ·rw[hW6,World.size_alloc,hs5];omega
  ·rw[hW6,hW5];simp[go_sem]
  ·rw[hW6,hW5];simp[go_sem]
  ·rw[hW6,hW5];simp[go_sem]
  ·rw[encZ_none]
   exact own_from (own_base (own_below ho2 hb6)) (fun q e=>by have:=((own_below ho2 hb6).lt q e).1;omega)
  ·rw[List.drop_zero];exact HR.out.symm
 have hsz6:w.heap.size≤W6.heap.size:=hbw6.size;have HP:=Lib.hid hP;rw[←hW6,hs5];clear hW6 hb16 hb6 hbw6 hP hs5 hb5 hW5 q0 qb e0 e2 e3 e4 e5 z2 z3 z4 z5 ho2 hg2 hg0
 gi_wp2_with fail
 refine range_to (gf:=166) (lb:=#[.pointer (some ⟨w2.heap.size+2,0,none⟩)]) rfl (enters_of Tryz.func166 (by kernel_rfl) rfl) (encs:=encP2) (fun _=>rfl) (nums (psTo code code.length)) _ _
  (all_seq 8 (by omega) B' _ b vp (psTo code code.length)) (fun A C h=>by rw[h];exact KeepsOthers.refl _)
  (fun d A=>DpsI w code js R w2.heap.size B' b gg vp d.length A) (DpsX w R) (fun d A C h k=>h.calm hsz6 k) (fun c A C h k=>h.calm hsz6 k) (fun d A h=>h.kn) hI0 ?round ?done ?stop
 case round=>
  rintro l' pre⟨i,p0,p1,p2⟩ rest W hx hi hsz;obtain⟨hpl,hi1,hpp⟩:=nums_get hx;simp only at hi1 hpp;simp only[encP2,procV];gi_wp2;refine⟨KeepsOthers.alloc _ _,fun W2 hs2' hc2=>?_⟩;have hi2:=hi.calm hsz6 ((Calm.of (Bel.new W (.cells #[.int .u32 p0,.int .u32 p1,.int .u32 p2,.int .i64 0] 126)) hsz).trans hc2);have hn0:W2.cell? ⟨W.heap.size,0,none⟩=some (.int .u32 p0):=hc2.cell (by simp[go_sem]);obtain⟨D,ms,g',c',vm,s1,s2,s3,s4,s5,s6,s7,s8,s9,s10,s11⟩:=hi2.st;have hbd:=(Hok.out.tl.bd pre.length hpl);rw[hpp]at hbd;simp only at hbd;have hp0:p0<code.length:=by omega
  have hdr:((psTo code code.length).map (·.1)).drop pre.length=p0::((psTo code code.length).map (·.1)).drop (pre.length+1):=by
   rw[List.drop_eq_getElem_cons (by simpa using hpl)];congr 1;rw[List.getElem_map];rw[List.getD_eq_getElem?_getD,List.getElem?_eq_getElem hpl]at hpp;simp only[Option.getD_some]at hpp;rw[hpp]
  rw[hdr,depthsN]at s8;have HW:=Lib.hid (walk_any HG.out hi2.bel Hok.out Hlt.out s4 s6 p0 hp0);generalize walkN code js (code.length+1) (D.set p0 0) [p0] 0=V at*;obtain⟨VD,VM,VA,VE⟩:=V;simp only at HW s8;have q1:=hi2.box;have Hi2:=Lib.hid hi2;have HS4:=Lib.hid s4;have HS5:=Lib.hid s5;have HS8:=Lib.hid s8;have HC2:=Lib.hid hc2;have hs2:=hs2';rw[World.size_alloc]at hs2;have hWS:w2.heap.size+2<W2.heap.size:=hi2.lt;clear hi hi2 s4 s5 s8 hc2 hx hdr hs2'
  gi_wp2_with fail
  refine⟨trivial,(CallsIn.inRound l' (callsIn_wide.2 HW.out)).mono ?_⟩;rintro e w5⟨D',rfl,ho5,hd5,hg5,heq⟩;have hq:∀k o,k<W2.heap.size→k≠g'→w5.cell? ⟨k,o,none⟩=W2.cell? ⟨k,o,none⟩:=fun k o h1 h2=>World.cell?_of_block (a:=⟨k,o,none⟩) (hg5.block k h1 (fun e=>h2 (by injection e)));have hqf:∀k o,k<W2.heap.size→k≠g'→w5.frozen? ⟨k,o,none⟩=W2.frozen? ⟨k,o,none⟩:=fun k o h1 h2=>World.frozen?_of_block (a:=⟨k,o,none⟩) (hg5.block k h1 (fun e=>h2 (by injection e)))
  have hKO:KeepsOthers W2 w5:=KeepsOthers.of_grownBy hg5 (fun j o e ho=>by
   cases e;obtain⟨cur,hgc,-⟩:=own_block HS4.out
   rw[hgc]at ho;cases ho;rfl)
  have hbw5:Below w.heap.size w w5:=Hi2.out.bel.trans (grown_belowB hg5 Hi2.out.bel.size (by omega));have a2:=(hq (w.heap.size+1) 0 (by omega) (by omega)).trans Hi2.out.r2;have a3:=(hq (w.heap.size+2) 0 (by omega) (by omega)).trans Hi2.out.r3;have a4:=(hq (w.heap.size+3) 0 (by omega) (by omega)).trans Hi2.out.r4;have a5:=(hq (w.heap.size+4) 0 (by omega) (by omega)).trans Hi2.out.r5;have b2:=(hqf (w.heap.size+1) 0 (by omega) (by omega)).trans Hi2.out.f2;have b3:=(hqf (w.heap.size+2) 0 (by omega) (by omega)).trans Hi2.out.f3;have b4:=(hqf (w.heap.size+3) 0 (by omega) (by omega)).trans Hi2.out.f4;have b5:=(hqf (w.heap.size+4) 0 (by omega) (by omega)).trans Hi2.out.f5;have a7:=(hq (w2.heap.size+1) 0 (by omega) (by omega)).trans s2;have b7:=(hqf (w2.heap.size+1) 0 (by omega) (by omega)).trans s3;have Hq:=Lib.hid hq;have Hqf:=Lib.hid hqf;have HKO:=Lib.hid hKO;have HB5:=Lib.hid hbw5;have HO5:=Lib.hid ho5;have HG5:=Lib.hid hg5;have HEQ:=Lib.hid heq;clear hq hqf hKO hbw5 ho5 hg5 heq HW;by_cases hve:VE=0
  ·subst hve
   have hz:((0:Nat):Int)=0:=rfl;rw[if_neg (by simp)]at HS8;obtain⟨j0,hj,hy0,hy1,hy2⟩:=info_parts info3';have hS3:w2.heap.size+3≤w5.heap.size:=Nat.le_trans hWS HG5.out.size
   have HM5:=Lib.hid (own_from (own_base (HS5.out.kept HG5.out (by
    cases hv:vm.ownBlock with
    | none=>exact .inl rfl
    | some q=>exact .inr (fun e=>by injection e with e;have:=s11 q hv;omega)))) (B:=w2.heap.size+3) (fun q e=>s11 q e))
   have hxa:=HM5.out.alloc (.cells #[.int .i64 VM] 3);have hnw:=news_new w5 #[.int .i64 VM] 3;have hml:ms.length≤16384:=by have:=Hok.out.tl;have h5:=psTo_le code code.length;omega
   have HS7:=Lib.hid s7;clear s7
   gi_wp2_with((with_reducible refine wpListIn_append_own (o:=⟨some 44,.call {callee:=.builtin .append,args:=#[.tmp 41,.tmp 43],argTypes:=#[111,111]},_,_,_,none⟩) _ rfl _ _ 111 rfl (w2.heap.size+3) 3 j0 (.int .i64 0) 1 8 Tryz.underlying111 hj hy0 hy1 hy2 ?_ ?_ vm ms.length (encZ ms) ?_ hxa ⟨w5.heap.size,0,none⟩ 1 1 [.int .i64 VM] ?_ ?_ hnw ?_ ?_ ?_ ?_ ?_);rfl;decide;rfl;rfl;rfl;(simp[Value.oneCell']);(unfold maxLen;omega);omega;(simp;omega);intro v' w' r1 r2 r3;obtain⟨gq,cq,rfl,hgq,hgq2⟩:=own_formB r1 (by omega);have hbb:Below (w2.heap.size+3) w5 w':=((Below.refl (w2.heap.size+3) w5).alloc hS3 (.cells #[.int .i64 VM] 3)).grown r2 (by rw[World.size_alloc];omega) (fun k e=>(HM5.out.lt k e).1);have hcx:=(hbb.cell (p:=⟨w2.heap.size+1,0,none⟩) (by show w2.heap.size+1<w2.heap.size+3;omega)).trans a7;have hfx:=(hbb.frozen (p:=⟨w2.heap.size+1,0,none⟩) (by show w2.heap.size+1<w2.heap.size+3;omega)).trans b7)
   have hbw:Below w.heap.size w w':=HB5.out.trans (hbb.mono (by omega));have hbws:=hbw.setCell (p:=⟨w2.heap.size+1,0,none⟩) (by show w.heap.size≤w2.heap.size+1;omega) (.slice (some ⟨gq,0,none⟩) (ms.length+1) cq)
   have hoth:∀k,k<w2.heap.size+3→k≠w2.heap.size+1→(w'.setCell ⟨w2.heap.size+1,0,none⟩ (.slice (some ⟨gq,0,none⟩) (ms.length+1) cq)).cell? ⟨k,0,none⟩=w5.cell? ⟨k,0,none⟩:=fun k k1 k2=>
    (World.cell?_of_block (a:=⟨k,0,none⟩) (Below.heap_setCell _ _ _ _ k2)).trans (hbb.cell (p:=⟨k,0,none⟩) k1)
   have hofr:∀k,k<w2.heap.size+3→(w'.setCell ⟨w2.heap.size+1,0,none⟩ (.slice (some ⟨gq,0,none⟩) (ms.length+1) cq)).frozen? ⟨k,0,none⟩=w5.frozen? ⟨k,0,none⟩:=fun k k1=>by
    rw[World.frozen?_setCell];exact hbb.frozen (p:=⟨k,0,none⟩) k1
   have hP':=HP.out.below hbws;have hsz5:=hbb.size
   have hrow:(w'.setCell ⟨w2.heap.size+1,0,none⟩ (.slice (some ⟨gq,0,none⟩) (ms.length+1) cq)).ownsRow w.heap.size 3 1 (.slice (some ⟨g',0,none⟩) code.length c') code.length (encZ D'):=by
    refine ownsRow_setCell_other ((HO5.out.alloc (.cells #[.int .i64 VM] 3)).kept r2 ?_) (fun e=>by simp only[Value.ownBlock,Option.some.injEq]at e;omega) _;cases hv:vm.ownBlock with
    | none=>exact .inr (by simp[Value.ownBlock])
    | some q=>exact .inr (by simp only[Value.ownBlock];intro e;injection e with e;have:=(HM5.out.lt q hv).1;omega)
   have hneed:(w'.setCell ⟨w2.heap.size+1,0,none⟩ (.slice (some ⟨gq,0,none⟩) (ms.length+1) cq)).ownsRow w.heap.size 3 1 (.slice (some ⟨gq,0,none⟩) (ms.length+1) cq) (ms++[VM]).length (encZ (ms++[VM])):=by
    have h1:=ownsRow_setCell_other r1 (a:=⟨w2.heap.size+1,0,none⟩) (fun e=>by simp only[Value.ownBlock,Option.some.injEq]at e;omega) (.slice (some ⟨gq,0,none⟩) (ms.length+1) cq);have h2:=own_from (own_base h1) (B:=w.heap.size) (fun q e=>by simp only[Value.ownBlock,Option.some.injEq]at e;omega);rw[List.length_append]
    simpa[encZ]using h2
   have hkn:=Hi2.out.kn.1;have hks:KeepsOthers W2 (w'.setCell ⟨w2.heap.size+1,0,none⟩ (.slice (some ⟨gq,0,none⟩) (ms.length+1) cq)):=HKO.out.trans ((KeepsOthers.alloc w5 _).trans ((KeepsOthers.of_grownBy r2 (own_cells hxa)).trans (KeepsOthers.setCell _ _ _)))
   refine⟨hks,hbws,(hoth _ (by omega) (by omega)).trans ((Hq.out _ 0 (by omega) (by omega)).trans q1),⟨(hoth _ (by omega) (by omega)).trans ((Hq.out _ 0 (by omega) (by omega)).trans hkn),hP'.c0,hP'.op⟩,(hoth _ (by omega) (by omega)).trans a2,(hoth _ (by omega) (by omega)).trans a3,(hoth _ (by omega) (by omega)).trans a4,(hoth _ (by omega) (by omega)).trans a5,
    (hofr _ (by omega)).trans b2,(hofr _ (by omega)).trans b3,(hofr _ (by omega)).trans b4,(hofr _ (by omega)).trans b5,by rw[World.size_setCell];omega,
    D',ms++[VM],g',c',_,(hoth _ (by omega) (by omega)).trans ((Hq.out _ 0 (by omega) (by omega)).trans s1),World.cell?_setCell_same' _ _ _ (by rw[hcx];rfl),(hofr _ (by omega)).trans b7,hrow,hneed,hd5,by rw[List.length_append,List.length_append,HS7.out];rfl,?_,s9,s10,fun q e=>by simp only[Value.ownBlock,Option.some.injEq]at e;omega⟩
   rw[List.length_append];have h8:=HS8.out;rw[HEQ.out trivial];exact h8
  ·have hne:((VE:Int)!=0)=true:=by simp;exact hve
   have hRe:R=([],[],VA,VE):=by rw[←HS8.out,if_pos hve]
   have HRe:=Lib.hid hRe;have Hve:=Lib.hid hve;clear hRe hve a7 b7;gi_wp2;have hcs:∀k o,k<W2.heap.size→k≠g'→w5.cell? ⟨k,o,none⟩=W2.cell? ⟨k,o,none⟩:=Hq.out;refine⟨HKO.out.trans ((KeepsOthers.setCell _ _ _).trans ((KeepsOthers.setCell _ _ _).trans ((KeepsOthers.setCell _ _ _).trans (KeepsOthers.setCell _ _ _)))),rfl,?_,?_,?_,?_,?_,?_⟩
   ·exact(((HB5.out.setCell (p:=⟨w.heap.size+1,0,none⟩) (Nat.le_succ _) _).setCell (p:=⟨w.heap.size+1+1,0,none⟩) (by show w.heap.size≤w.heap.size+1+1;omega) _).setCell (p:=⟨w.heap.size+1+1+1,0,none⟩) (by show w.heap.size≤w.heap.size+1+1+1;omega) _).setCell (p:=⟨w.heap.size+1+1+1+1,0,none⟩) (by show w.heap.size≤w.heap.size+1+1+1+1;omega) _
   ·simp[go_sem,a2]
   ·simp[go_sem,a3]
   ·rw[HRe.out];simp[go_sem,a4]
   ·rw[HRe.out];simp[go_sem,a5]
   ·rw[HRe.out];exact Hve.out
 case done=>
  rintro Dd W2 W3 W4 hi rfl hc hD hd;rename_i K hK;refine hK _ _ (wpIn_wide.2 ?_);have hi4:=hi.calm hsz6 hc;obtain⟨D,ms,g',c',vm,s1,s2,s3,s4,s5,s6,s7,s8,s9,s10,s11⟩:=hi4.st;rw[nums_length,List.drop_of_length_le (by simp),depthsN]at s8;obtain⟨av,cv,rfl,-⟩:=own_sl s5;have HS4:=Lib.hid s4;have HS5:=Lib.hid s5;have HS8:=Lib.hid s8;have Hi4:=Lib.hid hi4;have Hd:=Lib.hid hd;have x2:=hi4.r2;have x3:=hi4.r3;have x4:=hi4.r4;have x5:=hi4.r5;have y2:=hi4.f2;have y3:=hi4.f3;have y4:=hi4.f4;have y5:=hi4.f5;have hlw:=hi4.lt;clear hi hi4 hc hd s4 s5 s8 s7;have hle2:w.heap.size+6≤w2.heap.size:=by omega
  have HK0:=Lib.hid (show W4.cell? ⟨w2.heap.size,0,none⟩=some (.slice (some ⟨g',0,none⟩) code.length c')∧W4.cell? ⟨w2.heap.size+1,0,none⟩=some (.slice av ms.length cv)from⟨s1,s2⟩);have HKd:=Lib.hid (show∀W':World,(W'.cell? ⟨w2.heap.size,0,none⟩=some (.slice (some ⟨g',0,none⟩) code.length c')∧W'.cell? ⟨w2.heap.size+1,0,none⟩=some (.slice av ms.length cv))→(W'.drew.cell? ⟨w2.heap.size,0,none⟩=some (.slice (some ⟨g',0,none⟩) code.length c')∧W'.drew.cell? ⟨w2.heap.size+1,0,none⟩=some (.slice av ms.length cv))from fun W' h=>h)
  have HKs:=Lib.hid (show∀(W':World) (o:Nat) (v:Value),o<w2.heap.size→(W'.cell? ⟨w2.heap.size,0,none⟩=some (.slice (some ⟨g',0,none⟩) code.length c')∧W'.cell? ⟨w2.heap.size+1,0,none⟩=some (.slice av ms.length cv))→((W'.setCell ⟨o,0,none⟩ v).cell? ⟨w2.heap.size,0,none⟩=some (.slice (some ⟨g',0,none⟩) code.length c')∧(W'.setCell ⟨o,0,none⟩ v).cell? ⟨w2.heap.size+1,0,none⟩=some (.slice av ms.length cv))from
   fun W' o v ho h=>⟨(World.cell?_of_block (a:=⟨w2.heap.size,0,none⟩) (Below.heap_setCell _ _ _ _ (by show w2.heap.size≠o;omega))).trans h.1,(World.cell?_of_block (a:=⟨w2.heap.size+1,0,none⟩) (Below.heap_setCell _ _ _ _ (by show w2.heap.size+1≠o;omega))).trans h.2⟩)
  have k1:w.heap.size+1<w2.heap.size:=by omega
  have k2:w.heap.size+1+1<w2.heap.size:=by omega
  have k3:w.heap.size+1+1+1<w2.heap.size:=by omega
  have k4:w.heap.size+1+1+1+1<w2.heap.size:=by omega
  have KK1:=Lib.hid (fun W' v=>HKs.out W' _ v k1);have KK2:=Lib.hid (fun W' v=>HKs.out W' _ v k2);have KK3:=Lib.hid (fun W' v=>HKs.out W' _ v k3);have KK4:=Lib.hid (fun W' v=>HKs.out W' _ v k4);have HG4:=Lib.hid (show∀o:Nat,o≤w.heap.size+5→(Value.slice (some ⟨g',0,none⟩) code.length c').ownBlock≠some o from fun o ho e=>by simp only[Value.ownBlock,Option.some.injEq]at e;omega);have HG5:=Lib.hid (show∀o:Nat,o≤w.heap.size+5→(Value.slice av ms.length cv).ownBlock≠some o from fun o ho e=>by have:=s11 _ e;omega);have HDd:=Lib.hid (show w2.heap.size+2<Dd∧w.heap.size+6≤w2.heap.size from⟨by have:=hI0.lt;omega,hle2⟩);clear k1 k2 k3 k4 hle2 HKs hlw hsz6 hgS hg1 hbw2 hb2 hs1 hs2 HG Hok Hlt H3 HR HRp Hbw1 HP hI0 hB' hgl hcl s3 s6 s9 s10 s11 hD;go_wp2
  go_region_held3(fun w'=>w'.cell? ⟨w2.heap.size,0,none⟩=some (.slice (some ⟨g',0,none⟩) code.length c')∧w'.cell? ⟨w2.heap.size+1,0,none⟩=some (.slice av ms.length cv))
   (first|with_reducible exact HK0.out|(repeat(first|with_reducible exact HK0.out|(with_reducible refine HKd.out _ ?_)|(with_reducible refine KK1.out _ _ ?_)|(with_reducible refine KK2.out _ _ ?_)|(with_reducible refine KK3.out _ _ ?_)|(with_reducible refine KK4.out _ _ ?_)))) (fail)
  have ho4:=ownsRow_setCell_other (ownsRow_setCell_other (ownsRow_setCell_other (ownsRow_setCell_other HS4.out (a:=⟨w.heap.size+1,0,none⟩) (HG4.out (w.heap.size+1) (by omega)) (.slice (some ⟨g',0,none⟩) code.length c')) (a:=⟨w.heap.size+1+1,0,none⟩) (HG4.out (w.heap.size+1+1) (by omega)) (.slice av ms.length cv)) (a:=⟨w.heap.size+1+1+1,0,none⟩) (HG4.out (w.heap.size+1+1+1) (by omega)) (.int .i64 0)) (a:=⟨w.heap.size+1+1+1+1,0,none⟩) (HG4.out (w.heap.size+1+1+1+1) (by omega)) (.int .i64 0);have ho5:=ownsRow_setCell_other (ownsRow_setCell_other (ownsRow_setCell_other (ownsRow_setCell_other HS5.out (a:=⟨w.heap.size+1,0,none⟩) (HG5.out (w.heap.size+1) (by omega)) (.slice (some ⟨g',0,none⟩) code.length c')) (a:=⟨w.heap.size+1+1,0,none⟩) (HG5.out (w.heap.size+1+1) (by omega)) (.slice av ms.length cv)) (a:=⟨w.heap.size+1+1+1,0,none⟩) (HG5.out (w.heap.size+1+1+1) (by omega)) (.int .i64 0)) (a:=⟨w.heap.size+1+1+1+1,0,none⟩) (HG5.out (w.heap.size+1+1+1+1) (by omega)) (.int .i64 0)
  have hX1:((((W4.setCell ⟨w.heap.size+1,0,none⟩ (.slice (some ⟨g',0,none⟩) code.length c')).setCell ⟨w.heap.size+1+1,0,none⟩ (.slice av ms.length cv)).setCell ⟨w.heap.size+1+1+1,0,none⟩ (.int .i64 0)).setCell ⟨w.heap.size+1+1+1+1,0,none⟩ (.int .i64 0)).heap[Dd]?=some (.deferred (some [])):=by
   have h5:=HDd.out;rw[Below.heap_setCell _ _ _ _ (by show Dd≠w.heap.size+1+1+1+1;omega),Below.heap_setCell _ _ _ _ (by show Dd≠w.heap.size+1+1+1;omega),Below.heap_setCell _ _ _ _ (by show Dd≠w.heap.size+1+1;omega),Below.heap_setCell _ _ _ _ (by show Dd≠w.heap.size+1;omega)];exact Hd.out
  have hX2:((((W4.setCell ⟨w.heap.size+1,0,none⟩ (.slice (some ⟨g',0,none⟩) code.length c')).setCell ⟨w.heap.size+1+1,0,none⟩ (.slice av ms.length cv)).setCell ⟨w.heap.size+1+1+1,0,none⟩ (.int .i64 0)).setCell ⟨w.heap.size+1+1+1+1,0,none⟩ (.int .i64 0)).cell? ⟨w.heap.size+1,0,none⟩=some (.slice (some ⟨g',0,none⟩) code.length c'):=by simp[go_sem,x2]
  have hX3:((((W4.setCell ⟨w.heap.size+1,0,none⟩ (.slice (some ⟨g',0,none⟩) code.length c')).setCell ⟨w.heap.size+1+1,0,none⟩ (.slice av ms.length cv)).setCell ⟨w.heap.size+1+1+1,0,none⟩ (.int .i64 0)).setCell ⟨w.heap.size+1+1+1+1,0,none⟩ (.int .i64 0)).cell? ⟨w.heap.size+2,0,none⟩=some (.slice av ms.length cv):=by simp[go_sem,x3]
  have hX4:((((W4.setCell ⟨w.heap.size+1,0,none⟩ (.slice (some ⟨g',0,none⟩) code.length c')).setCell ⟨w.heap.size+1+1,0,none⟩ (.slice av ms.length cv)).setCell ⟨w.heap.size+1+1+1,0,none⟩ (.int .i64 0)).setCell ⟨w.heap.size+1+1+1+1,0,none⟩ (.int .i64 0)).cell? ⟨w.heap.size+3,0,none⟩=some (.int .i64 0):=by simp[go_sem,x4]
  have hX5:((((W4.setCell ⟨w.heap.size+1,0,none⟩ (.slice (some ⟨g',0,none⟩) code.length c')).setCell ⟨w.heap.size+1+1,0,none⟩ (.slice av ms.length cv)).setCell ⟨w.heap.size+1+1+1,0,none⟩ (.int .i64 0)).setCell ⟨w.heap.size+1+1+1+1,0,none⟩ (.int .i64 0)).cell? ⟨w.heap.size+4,0,none⟩=some (.int .i64 0):=by simp[go_sem,x5]
  have hXb:=(((Hi4.out.bel.setCell (p:=⟨w.heap.size+1,0,none⟩) (Nat.le_succ _) (.slice (some ⟨g',0,none⟩) code.length c')).setCell (p:=⟨w.heap.size+1+1,0,none⟩) (by show w.heap.size≤w.heap.size+1+1;omega) (.slice av ms.length cv)).setCell (p:=⟨w.heap.size+1+1+1,0,none⟩) (by show w.heap.size≤w.heap.size+1+1+1;omega) (.int .i64 0)).setCell (p:=⟨w.heap.size+1+1+1+1,0,none⟩) (by show w.heap.size≤w.heap.size+1+1+1+1;omega) (.int .i64 0);generalize (((W4.setCell ⟨w.heap.size+1,0,none⟩ (.slice (some ⟨g',0,none⟩) code.length c')).setCell ⟨w.heap.size+1+1,0,none⟩ (.slice av ms.length cv)).setCell ⟨w.heap.size+1+1+1,0,none⟩ (.int .i64 0)).setCell ⟨w.heap.size+1+1+1+1,0,none⟩ (.int .i64 0)=X at*;have hk':=Calm.putObj (B:=w.heap.size) X.drew (.deferred none) hX1 rfl (by have:=HDd.out;omega);have t2:=hk'.cell (show X.drew.cell? ⟨w.heap.size+1,0,none⟩=_ from hX2);have t3:=hk'.cell (show X.drew.cell? ⟨w.heap.size+2,0,none⟩=_ from hX3);have t4:=hk'.cell (show X.drew.cell? ⟨w.heap.size+3,0,none⟩=_ from hX4);have t5:=hk'.cell (show X.drew.cell? ⟨w.heap.size+4,0,none⟩=_ from hX5);have HX1:=Lib.hid (show X.drew.heap[Dd]?=some (.deferred (some []))from hX1);have HO4:=Lib.hid (hk'.own (A:=X.drew) ho4);have HO5:=Lib.hid (hk'.own (A:=X.drew) ho5);have HXB:=Lib.hid (Calm.below hXb.drew hk');clear hX1 hX2 hX3 hX4 hX5 ho4 ho5 hXb hk' x2 x3 x4 x5 y2 y3 y4 y5;go_wp2;refine⟨by simp,.inl ⟨_,_,rfl,run_takeDeferred HX1.out,?_⟩⟩;refine⟨.tuple #[.slice (some ⟨g',0,none⟩) code.length c',.slice av ms.length cv,.int .i64 0,.int .i64 0],by simp[results,Tryz.results110,go_sem,t2,t3,t4,t5],HXB.out,.inr ⟨by rw[←HS8.out],_,_,rfl,?_,?_⟩⟩
  ·rw[←HS8.out]
   have h:=HO4.out
   show World.ownsRow _ _ _ _ _ D.length (encZ D)
   rw[own_ilen h];exact h
  ·rw[←HS8.out];exact HO5.out
 case stop=>
  rintro Dd c W4⟨rfl,hb,x2,x3,x4,x5,hne⟩ hD hd;have Hd:=Lib.hid hd;have hk':=Calm.putObj (B:=w.heap.size) W4 (.deferred none) hd rfl (by omega);have HB:=Lib.hid hb;have Hne:=Lib.hid hne;have t2:=hk'.cell x2;have t3:=hk'.cell x3;have t4:=hk'.cell x4;have t5:=hk'.cell x5;clear hd hb hne;gi_wp2;refine⟨by simp,.inl ⟨_,_,rfl,run_takeDeferred Hd.out,?_⟩⟩;exact⟨.tuple #[.slice none 0 0,.slice none 0 0,.int .i64 R.2.2.1,.int .i64 R.2.2.2],by simp[results,Tryz.results110,go_sem,t2,t3,t4,t5],Calm.below HB.out hk',.inl ⟨Hne.out,rfl⟩⟩
end Go.Proofs.YtdffaepbkecoeaaGreat
namespace Go.Proofs.YtdffaepbkecoeaaGreat
open Go.RowKit
set_option linter.unusedVariables false
theorem flow_any {w:World} (vc vj:Value) (code:List (Nat×Nat)) (js:List Nat) (hok:FindOk code js []) (hl:code.length≤16384) (hjl:js.length≤16384) (hc:Instrs w vc code) (hj:Words w vj js) :
 Calls Tryz.prog 59 #[vc,vj] w (DpsPost (flowN code js) w):=by
 have hlt:=hc.lt;have HF:=Lib.hid (found_any vc vj code js hok hl hjl hc hj);have HD:=Lib.hid (fun W B g b uc uj (hG:GraphAt W B g b uc uj code js)=>depths_any hG hok hlt);generalize flowN code js=R at*;clear hlt hc hj;go_enter Tryz.func59,Tryz.ntmps59;go_wp2_with fail;refine HF.out.mono ?_;rintro e w1⟨g,b,uc,uj,rfl,hb1,hG⟩;have HD1:=Lib.hid (HD.out _ _ _ _ _ _ hG);have HB1:=Lib.hid hb1;clear hb1 hG HF HD;go_wp2_with fail;refine HD1.out.mono ?_;rintro e w2⟨hb2,⟨hne,rfl⟩|⟨h0,vd,vm,rfl,ho1,ho2⟩⟩
 ·have HB2:=Lib.hid (Bel.tr HB1.out hb2)
  have HN:=Lib.hid hne;clear hb2 hne;go_wp2;exact bodyPost_ret (v:=.tuple #[.slice none 0 0,.slice none 0 0,.int .i64 R.2.2.1,.int .i64 R.2.2.2]) (by simp[results,Tryz.results59,go_sem]) rfl ⟨HB2.out,.inl ⟨HN.out,rfl⟩⟩
 ·have HB2:=Lib.hid (Bel.tr HB1.out hb2)
  have H0:=Lib.hid h0;have HO1:=Lib.hid (own_from (own_base ho1) (B:=w.heap.size) (fun q e=>Nat.le_trans HB1.out.size (ho1.lt q e).1));have HO2:=Lib.hid (own_from (own_base ho2) (B:=w.heap.size) (fun q e=>Nat.le_trans HB1.out.size (ho2.lt q e).1));clear hb2 h0 ho1 ho2;go_wp2;exact bodyPost_ret (v:=.tuple #[vd,vm,.int .i64 0,.int .i64 0]) (by simp[results,Tryz.results59,go_sem]) rfl ⟨HB2.out,.inr ⟨H0.out,_,_,rfl,HO1.out,HO2.out⟩⟩
structure TakeOk (m:Img):Prop where
 k:checkI m=0
 f:FindOk m.code m.js (m.lx.map (·.2))
 r:(flowN m.code m.js).2.2.2=0
def TakeBad (m:Img) (a c:Nat):Prop:=
 (checkI m≠0∧a=0∧c=checkI m)∨(checkI m=0∧FindBad m.code m.js (m.lx.map (·.2)) a c)∨
 (checkI m=0∧FindOk m.code m.js (m.lx.map (·.2))∧(flowN m.code m.js).2.2.2≠0∧a=(flowN m.code m.js).2.2.1∧c=(flowN m.code m.js).2.2.2)
def ModAt (W:World) (B mb:Nat) (m:Img):Prop:=
 B≤mb∧∃(tb b:Nat) (vm uc vd uj ud un:Value),W.cell? ⟨mb,0,none⟩=some (.pointer (some ⟨tb,0,none⟩))∧B≤tb∧
  (W.cell? ⟨tb,0,none⟩=some (.pointer (some ⟨b,0,none⟩))∧W.cell? ⟨tb,1,none⟩=some vm∧W.cell? ⟨tb,2,none⟩=some uc∧W.cell? ⟨tb,3,none⟩=some vd∧
   W.cell? ⟨tb,4,none⟩=some uc∧W.cell? ⟨tb,5,none⟩=some uj∧W.cell? ⟨tb,6,none⟩=some ud∧W.cell? ⟨tb,7,none⟩=some (.int .u32 m.zero)∧W.cell? ⟨tb,8,none⟩=some (.int .u32 m.stack)∧
   W.cell? ⟨tb,9,none⟩=some un∧W.cell? ⟨tb,10,none⟩=some (.int .i64 (bitsI m))∧W.cell? ⟨tb,11,none⟩=some (.int .u64 (digN m)))∧
  ImgOwn W B uc uj ud un m∧(∃B',B≤B'∧FoundAt m.code m.js W B' b)∧
  W.ownsRow B 3 1 vd (flowN m.code m.js).1.length (encZ (flowN m.code m.js).1)∧W.ownsRow B 3 1 vm (flowN m.code m.js).2.1.length (encZ (flowN m.code m.js).2.1)
def TakePost (m:Img) (w:World) (e:Ending) (w':World):Prop:=
 Below w.heap.size w w'∧((∃a c:Nat,e=.returned (.tuple #[.pointer none,.int .i64 a,.int .i64 c])∧TakeBad m a c)∨
  ∃mb,e=.returned (.tuple #[.pointer (some ⟨mb,0,none⟩),.int .i64 0,.int .i64 0])∧TakeOk m∧ModAt w' w.heap.size mb m)
theorem findBad_pos {code:List (Nat×Nat)} {js ats:List Nat} {i c:Nat} (h:FindBad code js ats i c):c≠0:=by cases h<;>first|assumption|decide
theorem run_b229 (p:Option Addr) (a:Option Addr) (n c:Nat) (w:World):(Instr.build 113 #[(0,.pointer p),(1,.slice a n c)]).run Tryz.prog w=.ok (.agg #[.pointer p,.slice a n c]) w:=by kernel_rfl
theorem run_b231 (a a':Option Addr) (n c n' c':Nat) (w:World):(Instr.build 115 #[(0,.slice a n c),(1,.slice a' n' c')]).run Tryz.prog w=.ok (.agg #[.slice a n c,.slice a' n' c']) w:=by kernel_rfl
theorem run_b233 (p a1 a2 a3 a4 a5 a6 a7:Option Addr) (n1 c1 n2 c2 n3 c3 n4 c4 n5 c5 n6 c6 n7 c7:Nat) (z s:Int) (w:World):(Instr.build 117 #[(0,.agg #[.pointer p,.slice a1 n1 c1]),(1,.agg #[.slice a2 n2 c2,.slice a3 n3 c3]),(2,.agg #[.slice a4 n4 c4,.slice a5 n5 c5,.slice a6 n6 c6,.int .u32 z,.int .u32 s,.slice a7 n7 c7])]).run Tryz.prog w=.ok (.agg #[.pointer p,.slice a1 n1 c1,.slice a2 n2 c2,.slice a3 n3 c3,.slice a4 n4 c4,.slice a5 n5 c5,.slice a6 n6 c6,.int .u32 z,.int .u32 s,.slice a7 n7 c7,.int .i64 0,.int .u64 0]) w:=by kernel_rfl
theorem rawI_lt' {m:Img} (hc:∀i∈m.code,i.1<256∧i.2<4294967296) (hd:∀x∈m.data,x<256):∀x∈imgB m,x<256:=by
 refine withN_lt (withN_lt (fun x hx=>?_) _ _) _ _;unfold rawI headI at hx;rcases List.mem_append.1 hx with hx|hx
 ·rcases List.mem_append.1 hx with hx|hx
  ·have:∀y∈([80,69,78,33]:List Nat),y<256:=by decide
   exact this x hx
  ·exact le4s_lt _ x hx
 ·rcases List.mem_append.1 hx with hx|hx
  ·exact flatS_lt _ x hx
  ·rcases List.mem_append.1 hx with hx|hx
   ·exact le4s_lt _ x hx
   ·obtain⟨l,hl,hx⟩:=List.mem_flatMap.1 hx
    unfold partsI at hl;simp only[List.mem_cons,List.not_mem_nil,or_false]at hl;rcases hl with rfl|rfl|rfl|rfl
    ·exact encode_lt _ hc x hx
    ·exact le4s_lt _ x hx
    ·exact hd x hx
    ·exact namesB_lt _ x hx
theorem run_b303 (p:Option Addr) (w:World):(Instr.build 143 #[(0,.pointer p)]).run Tryz.prog w=.ok (.agg #[.pointer p]) w:=by kernel_rfl
theorem imgB_length_le (m:Img) (hm:checkI m=0):(imgB m).length<4294967296:=by
 obtain⟨hc1,hc2,hc3,hc4,hc5,hc6,hc7⟩:=checkI_ok hm;have L0:=encode_len m.code;have L1:=le4s_length m.js
 have L3:=namesB_len m.lx (fun j hj=>by
  have:=(namesN_iff m.lx).1 hc7 j hj;unfold nameN at this;simp only[Bool.and_eq_true,decide_eq_true_eq]at this;have:=this.2.1
  omega) m.lx.length (Nat.le_refl _)
 rw[List.take_length]at L3;unfold roomN at hc5
 have hr:(rawI m).length=64+((encode m.code).length+((le4s m.js).length+(m.data.length+(namesB m.lx).length))):=by
  have h1:(headI m).length=16:=by unfold headI;rw[List.length_append,le4s_length];rfl
  have h2:=flatS_length (spansL 64 ((partsI m).map List.length));rw[spansL_length,List.length_map]at h2;have h3:(partsI m).length=4:=rfl
  have h4:((partsI m).flatMap id).length=(encode m.code).length+((le4s m.js).length+(m.data.length+(namesB m.lx).length)):=by
   unfold partsI;simp
  unfold flatS at h2;rw[rawI,List.length_append,List.length_append,List.length_append,h1,h2,h3,h4,le4s_length];simp only[List.length_cons,List.length_nil];omega
 have h5:(imgB m).length=(rawI m).length:=by
  unfold imgB sealedN;rw[withN_length (by rw[withN_length (by omega)];omega),withN_length (by omega)]
 omega
theorem small_of_check {m:Img} (hm:checkI m=0):Small m:=by
 obtain⟨hc1,hc2,hc3,hc4,hc5,hc6,hc7⟩:=checkI_ok hm;unfold roomN at hc5;exact⟨hc1,hc3,by omega,hc6⟩
theorem cells28 {w:World} {g:Nat} {a b c d e f:Value} (h:w.heap[g]?=some (.cells #[a,b,c,d,e,f] 28 (0,0))):w.cell? ⟨g,0,none⟩=some a∧w.cell? ⟨g,1,none⟩=some b∧w.cell? ⟨g,2,none⟩=some c∧w.cell? ⟨g,3,none⟩=some d∧w.cell? ⟨g,4,none⟩=some e∧w.cell? ⟨g,5,none⟩=some f:=
 ⟨by simp[World.cell?,h],by simp[World.cell?,h],by simp[World.cell?,h],by simp[World.cell?,h],by simp[World.cell?,h],by simp[World.cell?,h]⟩
theorem own_downT {w:World} {B B' e sz n:Nat} {v:Value} {xs:List Value} (h:w.ownsRow B' e sz v n xs) (hb:B≤B'):w.ownsRow B e sz v n xs:=own_from (own_base h) (fun g e=>Nat.le_trans hb (h.lt g e).1)
theorem own_setRow {w:World} {B e sz n g:Nat} {v:Value} {xs:List Value} {cs:Array Value} (h:w.ownsRow B e sz v n xs) (hg:g<B):(w.setRow g cs).ownsRow B e sz v n xs:=by
 obtain⟨hl,h⟩:=h;rcases h with h|⟨g',cap,cur,hv,hb,hh,rest⟩
 ·exact⟨hl,.inl h⟩
 ·exact⟨hl,.inr ⟨g',cap,cur,hv,hb,(setRow_other _ _ _ _ (by omega)).trans hh,rest⟩⟩
theorem takeV_any (vc vj vd vn:Value) (m:Img) (w:World) (h:ImgAt w vc vj vd vn m) :
 Calls Tryz.prog 22 #[.agg #[vc,vj,vd,.int .u32 m.zero,.int .u32 m.stack,vn]] w (TakePost m w):=by
 have H:=Lib.hid h;have hb0:=Bel.new w (.cells #[vc,vj,vd,.int .u32 m.zero,.int .u32 m.stack,vn] 28);have HC:=Lib.hid (cells_new6 w vc vj vd (.int .u32 m.zero) (.int .u32 m.stack) vn 28);have HH:=Lib.hid (heap_alloc_new w (.cells #[vc,vj,vd,.int .u32 m.zero,.int .u32 m.stack,vn] 28));obtain⟨W0,hW0⟩:∃W0,W0=w.alloc (.cells #[vc,vj,vd,.int .u32 m.zero,.int .u32 m.stack,vn] 28):=⟨_,rfl⟩;have HK:=Lib.hid (imgCheck_any vc vj vd vn m W0 (by rw[hW0];exact h.below hb0));obtain⟨ac,cc,rfl,-⟩:=h.c.1;obtain⟨aj,cj,rfl,-⟩:=h.j.1;obtain⟨ad,cd,rfl,-⟩:=h.d.1;obtain⟨an,cn,rfl,-⟩:=h.n.1;clear h;go_enter Tryz.func22,Tryz.ntmps22;go_wp2_with fail;rw[←hW0];refine HK.out.mono ?_;rintro e w1⟨rfl,hb1⟩;have hs0:w.heap.size<W0.heap.size:=by rw[hW0];simp
 have HB1:=Lib.hid (Bel.tr (by rw[hW0];exact hb0) hb1:Below w.heap.size w w1);by_cases hm:checkI m=0
 ·rw[hm]
  have hh1:w1.heap[w.heap.size]?=some (.cells #[.slice ac m.code.length cc,.slice aj m.js.length cj,.slice ad m.data.length cd,.int .u32 m.zero,.int .u32 m.stack,.slice an m.lx.length cn] 28):=by
   rw[hb1.block w.heap.size hs0,hW0];exact HH.out
  have hs1:w.heap.size<w1.heap.size:=Nat.lt_of_lt_of_le hs0 hb1.size;have HCP:=Lib.hid (copied_any _ _ _ _ m (small_of_check hm) w1 (H.out.below HB1.out));have HH1:=Lib.hid hh1;have c0:w1.cell? ⟨w.heap.size,0,none⟩=some (.slice ac m.code.length cc):=(hb1.cell (p:=⟨w.heap.size,0,none⟩) hs0).trans (by rw[hW0];exact HC.out.1);have c1:w1.cell? ⟨w.heap.size,1,none⟩=some (.slice aj m.js.length cj):=(hb1.cell (p:=⟨w.heap.size,1,none⟩) hs0).trans (by rw[hW0];exact HC.out.2.1);have c2:w1.cell? ⟨w.heap.size,2,none⟩=some (.slice ad m.data.length cd):=(hb1.cell (p:=⟨w.heap.size,2,none⟩) hs0).trans (by rw[hW0];exact HC.out.2.2.1);have c3:w1.cell? ⟨w.heap.size,3,none⟩=some (.int .u32 m.zero):=(hb1.cell (p:=⟨w.heap.size,3,none⟩) hs0).trans (by rw[hW0];exact HC.out.2.2.2.1);have c4:w1.cell? ⟨w.heap.size,4,none⟩=some (.int .u32 m.stack):=(hb1.cell (p:=⟨w.heap.size,4,none⟩) hs0).trans (by rw[hW0];exact HC.out.2.2.2.2.1);have c5:w1.cell? ⟨w.heap.size,5,none⟩=some (.slice an m.lx.length cn):=(hb1.cell (p:=⟨w.heap.size,5,none⟩) hs0).trans (by rw[hW0];exact HC.out.2.2.2.2.2);clear hW0 hb0 HC HK hh1 hb1 HH;go_wp2_with fail;refine HCP.out.mono ?_;rintro e w2⟨uc,uj,ud,un,rfl,hio,hb2⟩;have I1:=H.out.below HB1.out;have HA:=Lib.hid (hio.at (H.out));obtain⟨a1,n1,rfl,-⟩:=own_sl hio.c;obtain⟨a2,n2,rfl,-⟩:=own_sl hio.j;obtain⟨a3,n3,rfl,-⟩:=own_sl hio.d;obtain⟨a4,n4,rfl,-⟩:=own_sl hio.n;have HIO:=Lib.hid hio;have HH2:=Lib.hid (show w2.heap[w.heap.size]?=some (.cells #[.slice ac m.code.length cc,.slice aj m.js.length cj,.slice ad m.data.length cd,.int .u32 m.zero,.int .u32 m.stack,.slice an m.lx.length cn] 28)from(hb2.block w.heap.size hs1).trans HH1.out);have HB2:=Lib.hid hb2;clear hio hb2 HH1 c0 c1 c2 c3 c4 c5 HCP I1;obtain⟨W3,hW3⟩:∃W3,W3=w2.setRow w.heap.size #[.slice a1 m.code.length n1,.slice a2 m.js.length n2,.slice a3 m.data.length n3,.int .u32 m.zero,.int .u32 m.stack,.slice a4 m.lx.length n4]:=⟨_,rfl⟩;have HH3:=Lib.hid (setRow_heap _ _ _ #[.slice a1 m.code.length n1,.slice a2 m.js.length n2,.slice a3 m.data.length n3,.int .u32 m.zero,.int .u32 m.stack,.slice a4 m.lx.length n4] _ _ HH2.out);obtain⟨r0,r1,r2,r3,r4,r5⟩:=cells28 HH3.out
  have HIO3:Hid (ImgOwn W3 (w.heap.size+1) (.slice a1 m.code.length n1) (.slice a2 m.js.length n2) (.slice a3 m.data.length n3) (.slice a4 m.lx.length n4) m):=Lib.hid (by
   rw[hW3];have hB:w.heap.size+1≤w1.heap.size:=hs1
   exact⟨own_setRow (own_downT HIO.out.c hB) (by omega),own_setRow (own_downT HIO.out.j hB) (by omega),own_setRow (own_downT HIO.out.d hB) (by omega),own_setRow (own_downT HIO.out.n hB) (by omega)⟩)
  have HA3:=Lib.hid (HIO3.out.at H.out);have HB3:Hid (Below w.heap.size w W3):=Lib.hid (by rw[hW3];exact below_setRow (Bel.tr HB1.out HB2.out) _ (Nat.le_refl _) _)
  have hs3:w.heap.size<W3.heap.size:=by
   have h1:=HB2.out.size;have h2:W3.heap.size=w2.heap.size:=by rw[hW3];simp[World.setRow]
   omega
  have HF:=Lib.hid (find_any _ _ _ m.code m.js (m.lx.map (·.2)) HA3.out.c HA3.out.j.rowu HA3.out.n.names);have HH2':=HH2;clear HIO HA HH2
  go_wp2_with(((with_reducible refine wpList_store_row (o:=⟨none,.store 28 (.tmp 1) (.tmp 20),_,_,_,none⟩) rfl 28 _ _ rfl w.heap.size #[.slice a1 m.code.length n1,.slice a2 m.js.length n2,.slice a3 m.data.length n3,.int .u32 m.zero,.int .u32 m.stack,.slice a4 m.lx.length n4] ?_ ?_ 28 _ HH2'.out ?_ ?_ ?_ ?_);rfl;rfl;exact info28;rfl;(simp[Value.oneCell'])))
  rw[←hW3];rw[←hW3]at r0 r1 r2 r3 r4 r5 HH3;clear hW3;refine HF.out.mono ?_;rintro e w4⟨hb4,⟨i,c,rfl,hbad⟩|⟨b,B,rfl,hfo,hB1,hB2,hfd⟩⟩
  ·have hcn:((c:Nat):Int)≠0:=by have:=findBad_pos hbad;omega
   have HB4:=Lib.hid (Bel.tr HB3.out hb4);clear hb4;go_wp2_with fail
   go_ret3
   exact⟨HB4.out,.inl ⟨i,c,rfl,.inr (.inl ⟨hm,hbad⟩)⟩⟩
  ·have s0:=(hb4.cell (p:=⟨w.heap.size,0,none⟩) hs3).trans r0
   have s1:=(hb4.cell (p:=⟨w.heap.size,1,none⟩) hs3).trans r1;have s2:=(hb4.cell (p:=⟨w.heap.size,2,none⟩) hs3).trans r2;have s3:=(hb4.cell (p:=⟨w.heap.size,3,none⟩) hs3).trans r3;have s4:=(hb4.cell (p:=⟨w.heap.size,4,none⟩) hs3).trans r4;have s5:=(hb4.cell (p:=⟨w.heap.size,5,none⟩) hs3).trans r5;have hs4:w.heap.size<w4.heap.size:=Nat.lt_of_lt_of_le hs3 hb4.size;have HB4:=Lib.hid hb4;have HA4:=Lib.hid (HA3.out.below hb4);have hsm:=small_of_check hm;have HD:=Lib.hid (flow_any _ _ m.code m.js ⟨hfo.he,hfo.h3,hfo.hall,hfo.hg,fun j hj=>absurd hj (Nat.not_lt_zero _)⟩ hsm.c hsm.j HA4.out.c HA4.out.j);have HFD:=Lib.hid hfd;have HFO:=Lib.hid hfo;obtain⟨R,hR⟩:∃R,R=flowN m.code m.js:=⟨_,rfl⟩;rw[←hR]at HD;have HR:=Lib.hid hR;clear r0 r1 r2 r3 r4 r5 HF HH3 hb4 hfd hfo hR hsm;go_wp2_with fail;refine HD.out.mono ?_;rintro e w5⟨hb5,⟨hbad,rfl⟩|⟨hgood,vd,vm,rfl,od,om⟩⟩
   ·have hcn:((R.2.2.2:Nat):Int)≠0:=by omega
    have HB5:=Lib.hid (Bel.tr (Bel.tr HB3.out HB4.out) hb5);clear hb5;go_wp2_with fail
    go_ret3
    exact⟨HB5.out,.inl ⟨_,_,rfl,.inr (.inr ⟨hm,HFO.out,by rw[←HR.out];exact hbad,by rw[HR.out],by rw[HR.out]⟩)⟩⟩
   ·have k0:=(hb5.cell (p:=⟨w.heap.size,0,none⟩) hs4).trans s0
    have k1:=(hb5.cell (p:=⟨w.heap.size,1,none⟩) hs4).trans s1;have k2:=(hb5.cell (p:=⟨w.heap.size,2,none⟩) hs4).trans s2;have k3:=(hb5.cell (p:=⟨w.heap.size,3,none⟩) hs4).trans s3;have k4:=(hb5.cell (p:=⟨w.heap.size,4,none⟩) hs4).trans s4;have k5:=(hb5.cell (p:=⟨w.heap.size,5,none⟩) hs4).trans s5;have hs5:w.heap.size<w5.heap.size:=Nat.lt_of_lt_of_le hs4 hb5.size;have HB5:=Lib.hid hb5;have HA5:=Lib.hid (HA4.out.below hb5);obtain⟨xd,yd,rfl,-⟩:=own_sl od;obtain⟨xm,ym,rfl,-⟩:=own_sl om;have HOD:=Lib.hid od;have HOM:=Lib.hid om;have hb229:=run_b229;have hb231:=run_b231;have hb233:=run_b233;clear s0 s1 s2 s3 s4 s5 hb5 od om HD;obtain⟨Wa,hWa⟩:∃Wa,Wa=w5.alloc (.cells #[.pointer (some ⟨b,0,none⟩),.slice xm R.2.1.length ym,.slice a1 m.code.length n1,.slice xd R.1.length yd,.slice a1 m.code.length n1,.slice a2 m.js.length n2,.slice a3 m.data.length n3,.int .u32 m.zero,.int .u32 m.stack,.slice a4 m.lx.length n4,.int .i64 0,.int .u64 0] 117):=⟨_,rfl⟩;have hha:Wa.heap[w5.heap.size]?=some (.cells #[.pointer (some ⟨b,0,none⟩),.slice xm R.2.1.length ym,.slice a1 m.code.length n1,.slice xd R.1.length yd,.slice a1 m.code.length n1,.slice a2 m.js.length n2,.slice a3 m.data.length n3,.int .u32 m.zero,.int .u32 m.stack,.slice a4 m.lx.length n4,.int .i64 0,.int .u64 0] 117):=(by rw[hWa];exact heap_alloc_new w5 _);have hsa:w5.heap.size<Wa.heap.size:=(by rw[hWa];simp);have hba:Below w5.heap.size w5 Wa:=(by rw[hWa];exact Bel.new w5 _);have HHa:=Lib.hid hha;have HBa:=Lib.hid hba;have HBi:=Lib.hid (bits_any _ _ _ _ m hm (checkI_ok hm).2.2.2.2.1 Wa (HA5.out.below hba));clear hha hba;go_wp2_with fail;rw[←hWa];clear hWa;refine HBi.out.mono ?_;rintro e w6⟨rfl,hb6⟩;obtain⟨tb,htb⟩:∃tb,tb=w5.heap.size:=⟨_,rfl⟩;have hh6:=(hb6.block w5.heap.size hsa).trans HHa.out;have hb56:=Bel.tr HBa.out hb6;have hs6:tb<w6.heap.size:=(by rw[htb];exact Nat.lt_of_lt_of_le hsa hb6.size);rw[←htb]at hh6;have Htb:=Lib.hid htb;rw[←htb];have q10:=cell_of_row w6 tb 10 _ _ _ hh6;have f10:=frozen_of_row w6 tb 10 _ _ hh6;obtain⟨W6,hW6⟩:∃W6,W6=w6.setCell ⟨tb,10,none⟩ (.int .i64 (bitsI m)):=⟨_,rfl⟩;have hB6:Below w5.heap.size w5 W6:=(by rw[hW6];exact hb56.setCell (p:=⟨tb,10,none⟩) (by show w5.heap.size≤tb;omega) _);have hh7:=heap_setCell_same _ _ 10 _ _ (.int .i64 (bitsI m)) hh6;rw[←hW6]at hh7;have HH7:=Lib.hid hh7;have l0:(w6.setCell ⟨tb,10,none⟩ (.int .i64 (bitsI m))).cell? ⟨w.heap.size,0,none⟩=_:=(by rw[←hW6];exact hB6.cell (p:=⟨w.heap.size,0,none⟩) hs5:_=w5.cell? ⟨w.heap.size,0,none⟩).trans k0;have l1:(w6.setCell ⟨tb,10,none⟩ (.int .i64 (bitsI m))).cell? ⟨w.heap.size,1,none⟩=_:=(by rw[←hW6];exact hB6.cell (p:=⟨w.heap.size,1,none⟩) hs5:_=w5.cell? ⟨w.heap.size,1,none⟩).trans k1;have l2:(w6.setCell ⟨tb,10,none⟩ (.int .i64 (bitsI m))).cell? ⟨w.heap.size,2,none⟩=_:=(by rw[←hW6];exact hB6.cell (p:=⟨w.heap.size,2,none⟩) hs5:_=w5.cell? ⟨w.heap.size,2,none⟩).trans k2;have l3:(w6.setCell ⟨tb,10,none⟩ (.int .i64 (bitsI m))).cell? ⟨w.heap.size,3,none⟩=_:=(by rw[←hW6];exact hB6.cell (p:=⟨w.heap.size,3,none⟩) hs5:_=w5.cell? ⟨w.heap.size,3,none⟩).trans k3;have l4:(w6.setCell ⟨tb,10,none⟩ (.int .i64 (bitsI m))).cell? ⟨w.heap.size,4,none⟩=_:=(by rw[←hW6];exact hB6.cell (p:=⟨w.heap.size,4,none⟩) hs5:_=w5.cell? ⟨w.heap.size,4,none⟩).trans k4;have l5:(w6.setCell ⟨tb,10,none⟩ (.int .i64 (bitsI m))).cell? ⟨w.heap.size,5,none⟩=_:=(by rw[←hW6];exact hB6.cell (p:=⟨w.heap.size,5,none⟩) hs5:_=w5.cell? ⟨w.heap.size,5,none⟩).trans k5;have HB6:=Lib.hid hB6;have HEn:=Lib.hid (imgEncode_any _ _ _ _ m hm W6 (HA5.out.below hB6))
    have hst6:tb<W6.heap.size:=by
     have:=World.block_lt_of_cell? W6 ⟨tb,0,none⟩ (cell_of_row W6 tb 0 _ _ _ hh7);exact this
    have hlt:=Lib.hid (rawI_lt' (m:=m) HA5.out.c.2 HA5.out.d.2);clear htb hh6 hb56 hB6 hh7 k0 k1 k2 k3 k4 k5 hb6 HBi HHa;go_wp2_with fail;rw[←hW6];clear hW6 l0 l1 l2 l3 l4 l5 q10 f10;refine HEn.out.mono ?_;rintro e w7⟨ub,rfl,ob,hb7⟩;have hh7:=(hb7.block tb hst6).trans HH7.out;have HB7:=Lib.hid (Bel.tr HB6.out hb7);have HSm:=Lib.hid (sum_bytes _ (imgB m) w7 (own_bytes ob hlt.out));obtain⟨xb,yb,rfl,-⟩:=own_sl ob;have q11:=cell_of_row w7 tb 11 _ _ _ hh7;have f11:=frozen_of_row w7 tb 11 _ _ hh7;have Hh7:=Lib.hid hh7;clear hb7 ob hh7 HEn HH7;go_wp2_with fail;refine HSm.out.mono ?_;rintro e w8⟨rfl,rfl⟩;have hsl:=sumN_lt (imgB m);have hil:=imgB_length_le m hm;have Hdg:=Lib.hid (show digN m=sumN (imgB m)*4294967296+(imgB m).length from rfl);have hb303:=run_b303;have hu1:IntKind.u64.wrap ((sumN (imgB m):Nat):Int)=((sumN (imgB m):Nat):Int):=(by rw[IntKind.wrap_u64];omega);have hu2:IntKind.u64.wrap (((imgB m).length:Nat):Int)=(((imgB m).length:Nat):Int):=(by rw[IntKind.wrap_u64];omega);have hu3:IntKind.u64.wrap (((sumN (imgB m):Nat):Int)*4294967296)=((sumN (imgB m):Nat):Int)*4294967296:=(by rw[IntKind.wrap_u64];omega);have hu4:IntKind.u64.wrap (((sumN (imgB m):Nat):Int)*4294967296+(((imgB m).length:Nat):Int))=((digN m:Nat):Int):=(by rw[IntKind.wrap_u64,Hdg.out];omega);generalize sumN (imgB m)=sm at*;generalize (imgB m).length=il at*;clear HSm;go_wp2_with fail
    go_ret3
    have hb9:Below w5.heap.size w5 ((w7.setCell ⟨tb,11,none⟩ (.int .u64 (digN m))).alloc (.cells #[.pointer (some ⟨tb,0,none⟩)] 143)):=Bel.al (HB7.out.setCell (p:=⟨tb,11,none⟩) (by show w5.heap.size≤tb;rw[Htb.out];exact Nat.le_refl _) _) _;have h8:=heap_setCell_same _ _ 11 _ _ (.int .u64 (digN m)) Hh7.out;have ht8:tb<(w7.setCell ⟨tb,11,none⟩ (.int .u64 (digN m))).heap.size:=World.block_lt_of_cell? _ ⟨tb,0,none⟩ (cell_of_row _ tb 0 _ _ _ h8);have h9:=(Below.heap_alloc (w7.setCell ⟨tb,11,none⟩ (.int .u64 (digN m))) (.cells #[.pointer (some ⟨tb,0,none⟩)] 143) tb ht8).trans h8;have hwt:w.heap.size≤tb:=(by rw[Htb.out];omega);have hw7:w.heap.size≤w7.heap.size:=(by have:=HB7.out.size;omega);have hio9:=HIO3.out.below (Bel.tr (Bel.tr HB4.out HB5.out) hb9);refine⟨Bel.tr (Bel.tr (Bel.tr HB3.out HB4.out) HB5.out) hb9,.inr ⟨w7.heap.size,rfl,⟨hm,HFO.out,by rw[←HR.out];omega⟩,hw7,tb,b,.slice xm R.2.1.length ym,.slice a1 m.code.length n1,.slice xd R.1.length yd,.slice a2 m.js.length n2,.slice a3 m.data.length n3,.slice a4 m.lx.length n4,cell1_new _ _ _ (by simp),hwt,?_,?_,?_,?_,?_⟩⟩
    ·exact⟨cell_of_row _ tb 0 _ _ _ h9,cell_of_row _ tb 1 _ _ _ h9,cell_of_row _ tb 2 _ _ _ h9,cell_of_row _ tb 3 _ _ _ h9,cell_of_row _ tb 4 _ _ _ h9,cell_of_row _ tb 5 _ _ _ h9,cell_of_row _ tb 6 _ _ _ h9,cell_of_row _ tb 7 _ _ _ h9,cell_of_row _ tb 8 _ _ _ h9,cell_of_row _ tb 9 _ _ _ h9,cell_of_row _ tb 10 _ _ _ h9,cell_of_row _ tb 11 _ _ _ h9⟩
    ·exact⟨own_downT hio9.c (by omega),own_downT hio9.j (by omega),own_downT hio9.d (by omega),own_downT hio9.n (by omega)⟩
    ·obtain⟨vp,vo,vt,us,tag,hA⟩:=HFD.out
     exact⟨B,by omega,FoundAt.below ⟨vp,vo,vt,us,hA.at_⟩ (Bel.tr HB5.out hb9)⟩
    ·rw[←HR.out];exact own_below (own_downT HOD.out (by omega)) hb9
    ·rw[←HR.out];exact own_below (own_downT HOM.out (by omega)) hb9
 ·have hne:((checkI m:Nat):Int)≠0:=by omega
  go_wp2_with fail
  go_ret3
  exact⟨HB1.out,.inl ⟨0,_,rfl,.inl ⟨hm,rfl,rfl⟩⟩⟩
structure Fr (w w':World) (F F':Nat→Prop):Prop where
 os:w'.os=w.os
 tape:w'.tape=w.tape
 output:w'.output=w.output
 size:w.heap.size≤w'.heap.size
 block:∀k,k<w.heap.size→¬F k→w'.heap[k]?=w.heap[k]?
 foot:∀k,F' k→F k∨w.heap.size≤k
theorem Fr.refl (w:World) (F:Nat→Prop):Fr w w F F:=⟨rfl,rfl,rfl,Nat.le_refl _,fun _ _ _=>rfl,fun _ h=>.inl h⟩
theorem Fr.trans {w w1 w2:World} {F F1 F2:Nat→Prop} (h:Fr w w1 F F1) (h2:Fr w1 w2 F1 F2):Fr w w2 F F2:=
 ⟨h2.os.trans h.os,h2.tape.trans h.tape,h2.output.trans h.output,Nat.le_trans h.size h2.size,
  fun k hk hn=>(h2.block k (Nat.lt_of_lt_of_le hk h.size) (fun h1=>(h.foot k h1).elim hn (fun h3=>absurd hk (by omega)))).trans (h.block k hk hn),
  fun k hk=>(h2.foot k hk).elim (fun h1=>h.foot k h1) (fun h1=>.inr (Nat.le_trans h.size h1))⟩
theorem Fr.of {w w1:World} (h:Below w.heap.size w w1) (F:Nat→Prop):Fr w w1 F F:=
 ⟨h.os,h.tape,h.output,h.size,fun k hk _=>h.block k hk,fun _ h=>.inl h⟩
theorem Fr.mono {w w1:World} {F F1 G G1:Nat→Prop} (h:Fr w w1 F F1) (hs:∀i,F i→G i) (hs1:∀i,G1 i→G i∨F1 i):Fr w w1 G G1:=
 ⟨h.os,h.tape,h.output,h.size,fun k hk hn=>h.block k hk (fun e=>hn (hs _ e)),fun k hk=>(hs1 k hk).elim .inl (fun h1=>(h.foot k h1).elim (fun h2=>.inl (hs k h2)) .inr)⟩
theorem Fr.setCell (w:World) {F:Nat→Prop} {a:Addr} (ha:F a.block) (v:Value):Fr w (w.setCell a v) F F:=
 ⟨rfl,rfl,rfl,by simp[World.setCell],fun k hk hn=>Below.heap_setCell _ _ _ _ (fun e=>hn (by rw[e];exact ha)),fun _ h=>.inl h⟩
theorem Fr.drew {w w1:World} {F F1:Nat→Prop} (h:Fr w w1 F F1):Fr w w1.drew F F1:=h.trans (Fr.of (Below.refl _ _).drew F1)
theorem Fr.row {w w':World} {F F':Nat→Prop} (h:Fr w w' F F') {k:Nat} {o:Obj} (hk:w.heap[k]?=some o) (hn:¬F k):w'.heap[k]?=some o:=
 (h.block k (Array.getElem?_eq_some_iff.1 hk).1 hn).trans hk
theorem Fr.grew {w w2:World} {F:Nat→Prop} {v v':Value} (hv:∀g,v.ownBlock=some g→F g) (hg:Grew w w2 v v') {F':Nat→Prop} (hF:∀k,F' k→F k∨v'.ownBlock=some k):Fr w w2 F F':=
 ⟨hg.1.os,hg.1.tape,hg.1.output,hg.1.size,fun k hk hn=>hg.1.block k hk (fun e=>hn (hv k e.symm)),
  fun k hk=>(hF k hk).elim .inl (fun h1=>(hg.2 k h1).elim (fun h2=>.inl (hv k h2)) .inr)⟩
theorem own_fr {w w':World} {F F':Nat→Prop} {B e sz n:Nat} {v:Value} {xs:List Value} (h:w.ownsRow B e sz v n xs) (hf:Fr w w' F F') (hn:∀g,v.ownBlock=some g→¬F g):w'.ownsRow B e sz v n xs:=by
 refine⟨h.1,?_⟩;rcases h.2 with hn'|⟨g,cap,cur,rfl,hb,hgg,rest⟩
 ·exact .inl hn'
 ·exact .inr ⟨g,cap,cur,rfl,hb,hf.row hgg (hn g rfl),rest⟩
def encT:List (Nat×Bool)→List Value
 | []=>[]
 | x::l=>.int .u32 x.1:: .bool x.2::encT l
theorem encT_append (l m:List (Nat×Bool)):encT (l++m)=encT l++encT m:=by
 induction l with
 | nil=>rfl
 | cons x l ih=>simp only[List.cons_append,encT,ih]
theorem encT_length (l:List (Nat×Bool)):(encT l).length=l.length*2:=by
 induction l with
 | nil=>rfl
 | cons x l ih=>simp only[encT,List.length_cons,ih];omega
def touL (logs:Bool) (t l:List (Nat×Bool)):List (Nat×Bool):=if logs then(t++l).take 65536 else t
def memF (p g:Nat) (vt:Value):Nat→Prop:=fun k=>k=p∨k=g∨vt.ownBlock=some k
structure MemAt (w:World) (p g c N:Nat) (vt:Value) (d:List Nat) (logs:Bool) (tou:List (Nat×Bool)):Prop where
 hp:w.heap[p]?=some (.cells #[.slice (some ⟨g,0,none⟩) N c,.bool logs,vt] 154 (0,0))
 row:w.ownsRow 0 5 1 (.slice (some ⟨g,0,none⟩) N c) N (encN .u8 d)
 tr:w.ownsRow 0 66 2 vt tou.length (encT tou)
 len:d.length=N
 k:∃k,8≤k∧k≤16∧N=2 ^ k
 lt:∀x∈d,x<256
 tl:tou.length≤65536
theorem MemAt.fr {w w':World} {F F':Nat→Prop} {p g c N:Nat} {vt:Value} {d:List Nat} {logs:Bool} {tou:List (Nat×Bool)} (h:MemAt w p g c N vt d logs tou) (hf:Fr w w' F F') (hn:∀k,memF p g vt k→¬F k):MemAt w' p g c N vt d logs tou:=
 ⟨hf.row h.hp (hn p (.inl rfl)),own_fr h.row hf (fun k e=>hn k (.inr (.inl (by cases e;rfl)))),own_fr h.tr hf (fun k e=>hn k (.inr (.inr e))),h.len,h.k,h.lt,h.tl⟩
theorem MemAt.below {w w':World} {p g c N:Nat} {vt:Value} {d:List Nat} {logs:Bool} {tou:List (Nat×Bool)} (h:MemAt w p g c N vt d logs tou) (hb:Below w.heap.size w w'):MemAt w' p g c N vt d logs tou:=
 h.fr (Fr.of hb (fun _=>False)) (fun _ _ h=>h)
theorem MemAt.sizes {w:World} {p g c N:Nat} {vt:Value} {d:List Nat} {logs:Bool} {tou:List (Nat×Bool)} (h:MemAt w p g c N vt d logs tou):256≤N∧N≤65536∧4294967296%N=0:=by
 obtain⟨k,h8,h16,rfl⟩:=h.k;have:k=8∨k=9∨k=10∨k=11∨k=12∨k=13∨k=14∨k=15∨k=16:=by omega
 rcases this with rfl|rfl|rfl|rfl|rfl|rfl|rfl|rfl|rfl<;>decide
theorem mod_mod_N {a N:Nat} (h:4294967296%N=0):a%4294967296%N=a%N:=Nat.mod_mod_of_dvd a (Nat.dvd_of_mod_eq_zero h)
set_option linter.unusedSimpArgs false
theorem cells379 {w:World} {g:Nat} {a b c:Value} (h:w.heap[g]?=some (.cells #[a,b,c] 154 (0,0))) :
 (w.cell? ⟨g,0,none⟩=some a∧w.cell? ⟨g,1,none⟩=some b∧w.cell? ⟨g,2,none⟩=some c)∧∀j,w.frozen? ⟨g,j,none⟩=false:=
 ⟨⟨cell_of_row w g 0 _ _ _ h,cell_of_row w g 1 _ _ _ h,cell_of_row w g 2 _ _ _ h⟩,fun j=>frozen_of_row w g j _ _ h⟩
section
variable {w:World} {p g c N:Nat} {vt:Value} {d:List Nat} {logs:Bool} {tou:List (Nat×Bool)}
theorem made_any (h:MemAt w p g c N vt d logs tou):Calls Tryz.prog 69 #[.pointer (some ⟨p,0,none⟩)] w fun e w'=>e=.returned (.bool true)∧w=w':=by
 obtain⟨⟨c0,c1,c2⟩,-⟩:=cells379 h.hp;have hN:0<N:=by have:=h.sizes.1;omega
 clear h;go_enter Tryz.func69,Tryz.ntmps69;go_wp2_with fail;go_ret;exact⟨by simp[hN],rfl⟩
theorem place_any (h:MemAt w p g c N vt d logs tou) (a:Nat) (ha:a<4294967296):Calls Tryz.prog 163 #[.pointer (some ⟨p,0,none⟩),.int .u32 a] w fun e w'=>e=.returned (.int .u32 (a%N:Nat))∧w=w':=by
 obtain⟨⟨c0,c1,c2⟩,-⟩:=cells379 h.hp;obtain⟨s1,s2,-⟩:=h.sizes
 have hand:bits .and .u32 (a:Int) ((N:Int) - 1)=((a%N:Nat):Int):=by
  obtain⟨k,-,-,hk⟩:=h.k;have:=u32_and_nat a (N - 1) ha (by omega);rw[show((N - 1:Nat):Int)=(N:Int) - 1 from by omega]at this;rw[this,hk,Nat.and_two_pow_sub_one_eq_mod]
 have hw1:IntKind.i64.wrap ((N:Int) - 1)=(N:Int) - 1:=IntWalk.i64_in _ (by omega);have hw2:IntKind.u32.wrap ((N:Int) - 1)=(N:Int) - 1:=by rw[IntKind.wrap_u32];omega
 clear h;go_enter Tryz.func163,Tryz.ntmps163;go_wp2_with fail;go_ret;exact⟨by simp[hand],rfl⟩
end
theorem wordF_lt {x:Nat} (h:x<4294967296):wordF x<4294967296:=by unfold wordF;split<;>omega
theorem bitsN_lt (op:BinOp) (x y:Int):(bits op .u32 x y).toNat<4294967296:=by have:=bits_hi_u32 op x y;have:=bits_lo_u32 op x y;omega
theorem wf_f32 {x:Nat} (h:(Lit.float .f32 x).wf=true):x<4294967296:=by simpa[Lit.wf]using h
theorem unW_lt (o a:Nat):unW o a<4294967296:=by
 unfold unW
 split
 ·exact w32_lt _
 split
 ·exact w32_lt _
 split
 ·exact w32_lt _
 split
 ·exact bitsN_lt _ _ _
 split
 ·exact bitsN_lt _ _ _
 split
 ·exact wordF_lt (wf_f32 (floatOfInt_wf .f32 _))
 split
 ·exact w32_lt _
 ·decide
theorem arithF_lt (op:BinOp) (x y:Nat):arithF op x y<4294967296:=by
 unfold arithF
 split
 ·rename_i r h;exact wordF_lt (wf_f32 (floatBits_wf h))
 ·decide
theorem ite_lt {p:Prop} [Decidable p] {x y c:Nat} (hx:x<c) (hy:y<c):(if p then x else y)<c:=by split<;>assumption
theorem biW_lt (o a b:Nat) (ha:a<4294967296):biW o a b<4294967296:=by
 have h1:a%b<4294967296:=Nat.lt_of_le_of_lt (Nat.mod_le _ _) ha;have h2:a / 2 ^ (b%32)<4294967296:=Nat.lt_of_le_of_lt (Nat.div_le_self _ _) ha;unfold biW
 repeat' (refine ite_lt ?_ ?_)
 all_goals first|exact w32_lt _|exact bitsN_lt _ _ _|exact arithF_lt _ _ _|assumption|decide
theorem biR_lt (o a b:Nat) (ha:a<4294967296):(biR o a b).1<4294967296:=by
 have:=biW_lt o a b ha;unfold biR
 repeat' split
 all_goals first|exact this|decide
open Go.ChangeShapes Go.WideShapes Go.ChangeAt Go.RowKit Go.Joins Go.Deep
section
variable {H:Type} {enc:TypeId×Value→H} {P:Program} {w:World} {base:Nat} {spare:Nat→Bool} {held:Bool}
theorem open_slice_fields {t e:TypeId} {fs:Array Field} {fuel:Nat} {cs:List Value} {x:DataW H×List MemPlace} (ht:P.underlying t=some (.slice e)) (he:P.underlying e=some (.struct fs))
 (hone:oneCellFields P fs=true) (hC:P.cellsOf e=fs.size) (h:DataW.trod enc P w base spare held fuel t cs=some x) :
 (cs=[.slice none 0 0]∧x=(.nil,[]))∨
 ∃(a:Addr) (len cap m:Nat) (D:Nat→DataW H) (Pl:Nat→List MemPlace),cs=[.slice (some a) len cap]∧base≤a.block∧len≤cap∧cap≤maxLen∧m=(if spare a.block then cap else len)∧
  x=(.slice ((List.range len).map D) ((List.range (m - len)).map fun j=>D (len+j)),MemPlace.row a (m*fs.size)++(List.range m).flatMap Pl)∧
  ∀i,i<m→∃(ys:List (DataW H×List MemPlace)) (n:Nat),D i=.agg (ys.map (·.1))∧Pl i=ys.flatMap (·.2)∧ys.length=fs.size∧
   ∀(j:Nat) (f:Field),fs[j]?=some f→∃(v:Value) (y:DataW H×List MemPlace),w.cell? (a.add (i*fs.size+j))=some v∧ys[j]?=some y∧DataW.trod enc P w base spare held n f.type [v]=some y:=by
 rcases open_slice ht h with h0|⟨a,len,cap,m,n,D,Pl,hcs,hb,hl,hm,hmm,hx,hi⟩
 ·exact .inl h0
 ·refine .inr ⟨a,len,cap,m,D,Pl,hcs,hb,hl,hm,hmm,by rw[hC]at hx;exact hx,fun i him=>?_⟩
  obtain⟨cs',hc,ht'⟩:=hi i him;rw[hC]at hc;obtain⟨ys,n',hn',hy,hlen,hyl,hf⟩:=DataW.trod_struct he ht';obtain⟨_,hcl,hat⟩:=World.cells?_some hc;simp only[Prod.mk.injEq]at hy;refine⟨ys,n',hy.1,hy.2,hyl,fun j f hj=>?_⟩;obtain⟨ho,hk⟩:=hone_of hone j f hj;have hjl:j<fs.size:=(Array.getElem?_eq_some_iff.1 hj).1;have hcell:=hat j hjl;have hv:cs'[j]?=some (cs'[j]'(by omega)):=List.getElem?_eq_getElem (by omega);have h1:=hf j f hj;rw[ho,hk]at h1
  have hone':(cs'.drop j).take 1=[cs'[j]'(by omega)]:=by
   rw[List.drop_eq_getElem_cons (by omega)];rfl
  rw[hone']at h1;have hys:ys[j]?=some (ys[j]'(by omega)):=List.getElem?_eq_getElem (by omega);refine⟨_,_,?_,hys,h1.trans hys⟩;rw[←Go.Deep.add_add,hcell,hv]
end
theorem choose_list {α:Type} [Inhabited α] (n:Nat) (R:Nat→α→Prop) (h:∀i,i<n→∃x,R i x):∃l:List α,l.length=n∧∀i (hi:i<l.length),R i l[i]:=by
 classical
 refine⟨(List.range n).map fun i=>if hi:i<n then(h i hi).choose else default,by simp,fun i hi=>?_⟩;have hi':i<n:=by simpa using hi
 rw[List.getElem_map,List.getElem_range,dif_pos hi'];exact(h i hi').choose_spec
theorem encI_get (l:List (Nat×Nat)) (R:Nat→Value→Prop) (h0:∀i (hi:i<l.length),R (i*2) (.int .u8 (l[i].1:Nat))) (h1:∀i (hi:i<l.length),R (i*2+1) (.int .u32 (l[i].2:Nat))) :
 ∀j,j<(encI l).length→∃u,(encI l)[j]?=some u∧R j u:=by
 intro j hj;rw[encI_length]at hj;rcases Nat.mod_two_eq_zero_or_one j with e|e
 ·obtain⟨k,rfl⟩:∃k,j=k*2:=⟨j / 2,by omega⟩
  have hk:k<l.length:=by omega
  refine⟨_,encI_op l k hk,?_⟩;have:=h0 k hk
  rwa [List.getD_eq_getElem?_getD,List.getElem?_eq_getElem hk]
 ·obtain⟨k,rfl⟩:∃k,j=k*2+1:=⟨j / 2,by omega⟩
  have hk:k<l.length:=by omega
  refine⟨_,encI_arg l k hk,?_⟩;have:=h1 k hk
  rwa [List.getD_eq_getElem?_getD,List.getElem?_eq_getElem hk]
theorem cells40:Tryz.prog.cellsOf 106=2:=by kernel_rfl
theorem cells33:Tryz.prog.cellsOf 25=1:=by kernel_rfl
theorem cells5:Tryz.prog.cellsOf 5=1:=by kernel_rfl
theorem cells52:Tryz.prog.cellsOf 167=2:=by kernel_rfl
theorem ocells28:Tryz.prog.cellsOf 28=6:=by kernel_rfl
theorem getD_get {α:Type} (l:List α) (d:α) {k:Nat} (hk:k<l.length):l.getD k d=l[k]:=by
 rw[List.getD_eq_getElem?_getD,List.getElem?_eq_getElem hk];rfl
theorem getD_lt {l:List Nat} {m:Nat} (h:∀i (hi:i<l.length),l[i]<m) (h0:0<m) (k:Nat):l.getD k 0<m:=by
 by_cases hk:k<l.length
 ·rw[getD_get l 0 hk];exact h k hk
 ·rw[List.getD_eq_getElem?_getD,List.getElem?_eq_none (by omega)];exact h0
section
variable {H:Type} {enc:TypeId×Value→H} {w:World} {base:Nat}
end
section
variable {H:Type} {enc:TypeId×Value→H} {P:Program} {w:World} {base:Nat} {spare:Nat→Bool} {held:Bool}
end
section
variable {H:Type} {enc:TypeId×Value→H} {w:World} {base:Nat}
end
theorem inf25:(Tryz.prog.info? 25).map (fun i=>(i.zero,i.size,i.bytes))=some (some (.int .u32 0),1,4):=by kernel_rfl
theorem inf5:(Tryz.prog.info? 5).map (fun i=>(i.zero,i.size,i.bytes))=some (some (.int .u8 0),1,1):=by kernel_rfl
theorem bs23_1 (a:Int) (w:World):(Instr.buildSlice 23 1 #[(0,.int .u32 a)]).run Tryz.prog w=.ok (.slice (some ⟨w.heap.size,0,none⟩) 1 1) (w.alloc (.cells #[.int .u32 a] 25)):=by kernel_rfl
theorem own_apart {w:World} {B B' e e' sz sz' n n':Nat} {v v':Value} {xs xs':List Value} (h:w.ownsRow B e sz v n xs) (h':w.ownsRow B' e' sz' v' n' xs') (hne:e≠e') :
 ∀g,v.ownBlock=some g→v'.ownBlock≠some g:=by
 intro g hg hg';rcases h.2 with⟨rfl,_⟩|⟨q,cap,cur,rfl,_,hq,_⟩
 ·cases hg
 rcases h'.2 with⟨rfl,_⟩|⟨q',cap',cur',rfl,_,hq',_⟩
 ·cases hg'
 simp only[Value.ownBlock,Option.some.injEq]at hg hg';rw[hg]at hq;rw[hg',hq]at hq';simp only[Option.some.injEq,Obj.cells.injEq]at hq';exact hne hq'.2.1
theorem int_beq_ne {a b:Nat} (h:a≠b):(((a:Nat):Int)==((b:Nat):Int))=false:=beq_eq_false_iff_ne.2 (fun h'=>h (Int.ofNat_inj.1 h'))
theorem inf159:(Tryz.prog.info? 66).map (fun i=>(i.zero,i.size,i.bytes))=some (some (.agg #[.int .u32 0,.bool false]),2,8):=by kernel_rfl
theorem run_b159 (x:Int) (b:Bool) (w:World):(Instr.build 66 #[(0,.int .u32 x),(1,.bool b)]).run Tryz.prog w=.ok (.agg #[.int .u32 x,.bool b]) w:=by kernel_rfl
theorem bs156_1 (x:Int) (b:Bool) (w:World):(Instr.buildSlice 63 1 #[(0,.agg #[.int .u32 x,.bool b])]).run Tryz.prog w=.ok (.slice (some ⟨w.heap.size,0,none⟩) 1 1) (w.alloc (.cells #[.int .u32 x,.bool b] 66)):=by kernel_rfl
theorem touN_succ (N a k:Nat) (b:Bool):touN N a (k+1) b=touN N a k b++[((a+k)%N,b)]:=by unfold touN;rw[List.range_succ,List.map_append];rfl
theorem touL_full {t l m:List (Nat×Bool)} (h:65536≤(touL true t l).length):touL true t (l++m)=touL true t l:=by
 unfold touL at*;simp only[if_true]at*;rw[List.length_take]at h;rw[←List.append_assoc,List.take_append_of_le_length (by omega)]
theorem touL_more {t l:List (Nat×Bool)} {x:Nat×Bool} (h:(touL true t l).length<65536):touL true t (l++[x])=touL true t l++[x]:=by
 unfold touL at*;simp only[if_true]at*;rw[List.length_take]at h;rw[←List.append_assoc,List.take_of_length_le (by simp at h⊢;omega),List.take_of_length_le (by simp at h⊢;omega)]
theorem MemAt.noted {W w9:World} {p g c N:Nat} {u v9:Value} {d:List Nat} {logs:Bool} {tou:List (Nat×Bool)} {x:Nat×Bool} (h:MemAt W p g c N u d logs tou) (hg:Grew W w9 u v9) (ho:w9.ownsRow 0 66 2 v9 (tou.length+1) (encT tou++[.int .u32 x.1,.bool x.2])) (hl:tou.length<65536) :
 MemAt (w9.setCell ⟨p,2,none⟩ v9) p g c N v9 d logs (tou++[x])∧Fr W (w9.setCell ⟨p,2,none⟩ v9) (fun b=>b=p∨u.ownBlock=some b) (fun b=>b=p∨v9.ownBlock=some b):=by
 have hne:∀k,u.ownBlock=some k→k≠p:=fun k e hk=>by
  subst hk;rcases h.tr.2 with⟨e1,-⟩|⟨g',cap,cur,e1,-,hg',-⟩
  ·rw[e1]at e;cases e
  ·rw[e1]at e;cases e
   rw[h.hp]at hg';simp at hg'
 have hp9:w9.heap[p]?=some (.cells #[.slice (some ⟨g,0,none⟩) N c,.bool logs,u] 154 (0,0)):=
  (hg.1.block p (Array.getElem?_eq_some_iff.1 h.hp).1 (fun e=>hne p e.symm rfl)).trans h.hp
 have hrow:w9.ownsRow 0 5 1 (.slice (some ⟨g,0,none⟩) N c) N (encN .u8 d):=own_grew h.row hg (own_apart h.row h.tr (by decide))
 have hgp:(Value.slice (some ⟨g,0,none⟩) N c).ownBlock≠some p:=fun e=>by
  have e':g=p:=by injection e
  rcases h.row.2 with⟨e1,-⟩|⟨g',cap,cur,e1,-,hg',-⟩
  ·cases e1
  ·cases e1
   rw[e',h.hp]at hg';simp at hg'
 have hv9:v9.ownBlock≠some p:=fun e=>by
  rcases ho.2 with⟨e1,-⟩|⟨g',cap,cur,e1,-,hg',-⟩
  ·rw[e1]at e;cases e
  ·rw[e1]at e;cases e
   rw[hp9]at hg';simp at hg'
 refine⟨⟨heap_setCell_same w9 p 2 _ _ _ hp9,ownsRow_setCell_other hrow hgp _,?_,h.len,h.k,h.lt,by simp;omega⟩,?_⟩
 ·have:=ownsRow_setCell_other ho hv9 (a:=⟨p,2,none⟩) v9
  rw[encT_append,List.length_append];exact this
 ·refine(Fr.grew (F:=fun b=>b=p∨u.ownBlock=some b) (fun g e=>.inr e) hg (F':=fun b=>b=p∨v9.ownBlock=some b) (fun k hk=>hk.elim (fun h=>.inl (.inl h)) .inr)).trans ?_
  exact Fr.setCell w9 (F:=fun b=>b=p∨v9.ownBlock=some b) (a:=⟨p,2,none⟩) (.inl rfl) v9
def eachF (p g:Nat) (H:Nat→Prop) (v:Value):Nat→Prop:=fun b=>b=p∨b=g∨v.ownBlock=some b∨H b
structure EachAt (w:World) (p g c N:Nat) (vt:Value) (logs:Bool) (tou:List (Nat×Bool)) (H:Nat→Prop) (J:Nat→World→Prop) (D:Nat→List Nat) (wt:Bool) (a k:Nat) (W:World) (u:Value):Prop where
 m:MemAt W p g c N u (D k) logs (touL logs tou (touN N a k wt))
 j:J k W
 own:∀b,u.ownBlock=some b→vt.ownBlock=some b∨w.heap.size≤b
 fr:Fr w W (eachF p g H vt) (eachF p g H u)
theorem MemAt.still {W w9:World} {p g c N:Nat} {u v9:Value} {d:List Nat} {logs:Bool} {tou:List (Nat×Bool)} (h:MemAt W p g c N u d logs tou) (hg:Grew W w9 u v9) :
 w9.heap[p]?=some (.cells #[.slice (some ⟨g,0,none⟩) N c,.bool logs,u] 154 (0,0)):=by
 have hne:u.ownBlock≠some p:=fun e=>by
  rcases h.tr.2 with⟨e1,-⟩|⟨g',cap,cur,e1,-,hg',-⟩
  ·rw[e1]at e;cases e
  ·rw[e1]at e;cases e
   rw[h.hp]at hg';simp at hg'
 exact(hg.1.block p (Array.getElem?_eq_some_iff.1 h.hp).1 (fun e=>hne e.symm)).trans h.hp
section
variable {w:World} {p g c N:Nat} {vt:Value} {logs:Bool} {tou:List (Nat×Bool)} {H:Nat→Prop} {J:Nat→World→Prop} {D:Nat→List Nat} {wt:Bool} {a k:Nat}
theorem EachAt.out {w0 W:World} {u:Value} (h:EachAt w p g c N vt logs tou H J D wt a k W u) (hb:Below w0.heap.size w0 w) (hH:∀b,H b→w0.heap.size≤b):Fr w0 W (memF p g vt) (memF p g u):=
 ⟨h.fr.os.trans hb.os,h.fr.tape.trans hb.tape,h.fr.output.trans hb.output,Nat.le_trans hb.size h.fr.size,fun k hk hn=>by
  refine(h.fr.block k (Nat.lt_of_lt_of_le hk hb.size) ?_).trans (hb.block k hk);rintro(e|e|e|e)
  ·exact hn (.inl e)
  ·exact hn (.inr (.inl e))
  ·exact hn (.inr (.inr e))
  ·have:=hH k e;omega,fun k hk=>by
  rcases hk with e|e|e
  ·exact .inl (.inl e)
  ·exact .inl (.inr (.inl e))
  ·exact(h.own k e).elim (fun e=>.inl (.inr (.inr e))) (fun e=>.inr (Nat.le_trans hb.size e))⟩
theorem EachAt.note {W W1:World} {u u1:Value} (h:EachAt w p g c N vt logs tou H J D wt a k W u) {R:Nat→Prop}
 (hH:∀b,R b→b<w.heap.size∧b≠p∧vt.ownBlock≠some b)
 (hJs:∀k W W',J k W→W.heap.size≤W'.heap.size→(∀b,R b→W'.heap[b]?=W.heap[b]?)→J k W')
 (hm:MemAt W1 p g c N u1 (D k) logs (touL logs tou (touN N a (k+1) wt))) (hf:Fr W W1 (fun b=>b=p∨u.ownBlock=some b) (fun b=>b=p∨u1.ownBlock=some b)) :
 J k W1∧(∀b,u1.ownBlock=some b→vt.ownBlock=some b∨w.heap.size≤b)∧Fr w W1 (eachF p g H vt) (eachF p g H u1):=by
 have hs:=h.fr.size;refine⟨hJs k W W1 h.j hf.size (fun b hb=>hf.block b (by have:=(hH b hb).1;omega) ?_),fun b hb=>?_,h.fr.trans (hf.mono ?_ ?_)⟩
 ·rintro(rfl|hb')
  ·exact(hH b hb).2.1 rfl
  ·rcases h.own b hb' with h1|h1
   ·exact(hH b hb).2.2 h1
   ·have:=(hH b hb).1;omega
 ·by_cases hbp:b=p
  ·subst hbp
   rcases hm.tr.2 with⟨e1,-⟩|⟨g',cap,cur,e1,-,hg',-⟩
   ·rw[e1]at hb;cases hb
   ·rw[e1]at hb;cases hb
    rw[hm.hp]at hg';simp at hg'
  ·rcases hf.foot b (.inr hb)with(h1|h1)|h1
   ·exact absurd h1 hbp
   ·exact h.own b h1
   ·exact .inr (by omega)
 ·rintro b (rfl|hb)
  ·exact .inl rfl
  ·exact .inr (.inr (.inl hb))
 ·rintro b (rfl|rfl|hb|hb)
  ·exact .inl (.inl rfl)
  ·exact .inl (.inr (.inl rfl))
  ·exact .inr (.inr hb)
  ·exact .inl (.inr (.inr (.inr hb)))
end
theorem each_any (f:Nat) (c1 c2:Value) (H R:Nat→Prop) (J:Nat→World→Prop) (D:Nat→List Nat) (wt:Bool) (n a:Nat) {w:World} {p g c N:Nat} {vt:Value} {logs:Bool} {tou:List (Nat×Bool)}
 (hcf:∀(args:Array Value) (W:World),(callFunc f args).run Tryz.prog W=.ok (.enter f args) W)
 (hn:n≤65536) (ha:a<4294967296)
 (h:MemAt w p g c N vt (D 0) logs tou)
 (hH:∀b,R b→b<w.heap.size∧b≠p∧vt.ownBlock≠some b)
 (hJs:∀k W W',J k W→W.heap.size≤W'.heap.size→(∀b,R b→W'.heap[b]?=W.heap[b]?)→J k W')
 (hJ0:J 0 w)
 (hcall:∀k,k<n→∀(W:World) (u:Value) (t:List (Nat×Bool)),MemAt W p g c N u (D k) logs t→J k W→w.heap.size≤W.heap.size→(∀b,R b→u.ownBlock≠some b)→
  Calls Tryz.prog f #[.int .i64 k,.int .u32 ((a+k)%N:Nat),c1,c2] W fun e W'=>e=.returned (.tuple #[])∧MemAt W' p g c N u (D (k+1)) logs t∧J (k+1) W'∧Fr W W' (fun b=>b=g∨H b) (fun b=>b=g∨H b)) :
 Calls Tryz.prog 133 #[.pointer (some ⟨p,0,none⟩),.int .u32 a,.int .i64 n,.bool wt,.func (.func f) #[] #[c1,c2]] w fun e w'=>e=.returned (.tuple #[])∧∃vt',EachAt w p g c N vt logs tou H J D wt a n w' vt':=by
 obtain⟨i159,hi159,hi1590,hi1591,hi1592⟩:=info_parts inf159;have hb159:=run_b159;have hbs:=bs156_1;obtain⟨s1,s2,hNd⟩:=h.sizes
 have HCall:Hid (∀k,k<n→∀(W:World) (u:Value),EachAt w p g c N vt logs tou H J D wt a k W u→∀(W1:World) (u1:Value),MemAt W1 p g c N u1 (D k) logs (touL logs tou (touN N a (k+1) wt))→Fr W W1 (fun b=>b=p∨u.ownBlock=some b) (fun b=>b=p∨u1.ownBlock=some b)→
  Calls Tryz.prog f #[.int .i64 k,.int .u32 ((a+k)%N:Nat),c1,c2] W1 fun e W'=>e=.returned (.tuple #[])∧EachAt w p g c N vt logs tou H J D wt a (k+1) W' u1):=Lib.hid (by
  intro k hk W u he W1 u1 hm hf;obtain⟨hj,ho,hfr⟩:=he.note hH hJs hm hf;refine(hcall k hk W1 u1 _ hm hj hfr.size (fun b hb e=>?_)).mono ?_
  ·rcases ho b e with h1|h1
   ·exact(hH b hb).2.2 h1
   ·have:=(hH b hb).1;omega
  ·rintro e W'⟨rfl,hm',hj',hf'⟩
   exact⟨rfl,hm',hj',ho,hfr.trans (hf'.mono (fun b hb=>hb.elim (fun h=>.inr (.inl h)) (fun h=>.inr (.inr (.inr h)))) (fun b hb=>.inl hb))⟩)
 have H0:=Lib.hid (show EachAt w p g c N vt logs tou H J D wt a 0 w vt from⟨by
  have:touL logs tou (touN N a 0 wt)=tou:=by
   cases logs
   ·rfl
   ·show(tou++[]).take 65536=tou
    rw[List.append_nil,List.take_of_length_le h.tl]
  rw[this];exact h,hJ0,fun b hb=>.inl hb,Fr.refl _ _⟩)
 clear hcall hJ0 hH hJs h;go_enter Tryz.func133,Tryz.ntmps133;go_wp2_with fail
 go_loopw[13] (fun i W=>∃(k:Nat) (u:Value),i=.int .i64 k∧k≤n∧EachAt w p g c N vt logs tou H J D wt a k W u) (fun i _=>n - (intOf i).toNat)
 case atStart=>exact⟨0,vt,rfl,Nat.zero_le _,H0.out⟩
 case round=>
  obtain⟨k,u,rfl,hk,he⟩:=hrel;obtain⟨W,rfl⟩:∃W:World,W=wr:=⟨_,rfl⟩;have HE:=Lib.hid he;by_cases hlt:k<n
  ·have hki:(k:Int)<(n:Int):=by omega
   have hw1:IntKind.u32.wrap (k:Int)=(k:Int):=by rw[IntKind.wrap_u32];omega
   have hw2:IntKind.u32.wrap ((a:Int)+(k:Int))=(((a+k)%4294967296:Nat):Int):=by rw[IntKind.wrap_u32];omega
   have hpl:=place_any he.m ((a+k)%4294967296) (Nat.mod_lt _ (by decide));rw[mod_mod_N hNd]at hpl;have HC:=Lib.hid (HCall.out k hlt W u he);have hq0:=touN_succ N a k wt;have hqlt:(a+k)%N<4294967296:=by have:=Nat.mod_lt (a+k) (show 0<N by omega);omega
   have HW:=Lib.hid hpl;generalize (a+k)%N=q at hpl hq0 HC hqlt;have HM:=Lib.hid he.m;obtain⟨⟨r0,r1,r2⟩,rf⟩:=cells379 he.m.hp;have HS2:=Lib.hid s2;have HS1:=Lib.hid s1;clear he HW s1 s2;cases logs
   ·have hM1:MemAt W p g c N u (D k) false (touL false tou (touN N a (k+1) wt)):=HM.out
    have hcl:=HC.out W u hM1 (Fr.refl _ _);clear hM1;go_wp2_with fail;refine hpl.mono ?_;rintro e w1⟨rfl,rfl⟩;clear hpl;go_wp2_with fail;refine hcl.mono ?_;rintro e w2⟨rfl,he2⟩;have HE2:=Lib.hid he2;clear hcl he2;go_wp2_with fail
    go_roundw
    case rel=>exact⟨k+1,u,by go_num,by omega,HE2.out⟩
    case measure=>simp[intOf];omega
   ·generalize ht:touL true tou (touN N a k wt)=t at HM
    have HT:=Lib.hid ht;clear ht;have HRow:=Lib.hid (own_base HM.out.tr);obtain⟨L,hL⟩:∃L,L=t.length:=⟨_,rfl⟩;rw[←hL]at HRow;obtain⟨ua,uc,rfl,-⟩:=own_sl HRow.out;have HL:=Lib.hid hL;clear hL;by_cases hfull:L<65536
    ·have hti:(L:Int)<65536:=by omega
     have HFl:=Lib.hid hfull;clear hfull;go_wp2_with fail;refine hpl.mono ?_;rintro e w1⟨rfl,rfl⟩;clear hpl;have hL63:L+1≤65536:=(by have:=HFl.out;omega);have HSt:=Lib.hid (fun (w9:World) (v9:Value) (hg:Grew W w9 (.slice ua L uc) v9)=>HM.out.still hg);have HNt:=Lib.hid (fun (w9:World) (v9:Value) (hg:Grew W w9 (.slice ua L uc) v9) (ho:w9.ownsRow 0 66 2 v9 (L+1) (encT t++[.int .u32 q,.bool wt]))=>HM.out.noted (x:=(q,wt)) hg (by rw[←HL.out];exact ho) (by rw[←HL.out];exact HFl.out))
     go_wp2_with((with_reducible refine wpList_append1B (o:=⟨some 43,.call {callee:=.builtin .append,args:=#[.tmp 38,.tmp 42],argTypes:=#[63,63]},_,_,_,none⟩) rfl _ _ 63 rfl 66 i159 (.agg #[.int .u32 0,.bool false]) 2 8 Tryz.underlying63 hi159 hi1590 hi1591 hi1592 ?_ ?_ _ _ _ HRow.out _ _ W.heap.size ?_ ?_ ?_ ?_ ?_ ?_ ?_ ?_);rfl;decide;rfl;rfl;rfl;rfl;(simp[Value.oneCell']);(unfold maxLen;omega);omega;intro g9 c9 w9 o9 r9 hl9;have hp9:=HSt.out _ _ r9;obtain⟨⟨d0,d1,d2⟩,df⟩:=cells379 hp9;have HN9:=Lib.hid (HNt.out _ _ r9 o9);have HR9:=Lib.hid r9;clear r0 r1 r2 rf hp9 r9 o9)
     have hmm:=HN9.out.1;rw[←HT.out,←touL_more (by rw[HT.out,←HL.out];exact HFl.out),←hq0]at hmm;refine(HC.out _ _ hmm HN9.out.2).mono ?_;rintro e w2⟨rfl,he2⟩;have HE2:=Lib.hid he2;clear hmm he2 d0 d1 d2 df;go_wp2_with fail
     go_roundw
     case rel=>exact⟨k+1,_,by go_num,by omega,HE2.out⟩
     case measure=>simp[intOf];omega
    ·have hti:((L:Int)<65536)=False:=eq_false (by omega)
     have htn:(L<65536)=False:=eq_false hfull
     have hM1:MemAt W p g c N (.slice ua L uc) (D k) true (touL true tou (touN N a (k+1) wt)):=by
      rw[hq0,touL_full (by rw[HT.out,←HL.out];omega),HT.out];exact HM.out
     have hcl:=HC.out W _ hM1 (Fr.refl _ _);clear hM1 hfull;go_wp2_with fail;refine hpl.mono ?_;rintro e w1⟨rfl,rfl⟩;clear hpl;go_wp2_with fail;refine hcl.mono ?_;rintro e w2⟨rfl,he2⟩;have HE2:=Lib.hid he2;clear hcl he2;go_wp2_with fail
     go_roundw
     case rel=>exact⟨k+1,_,by go_num,by omega,HE2.out⟩
     case measure=>simp[intOf];omega
  ·obtain rfl:k=n:=by omega
   have hge:¬(k:Int)<(k:Int):=by omega
   go_wp2_with fail
   go_end0
   exact⟨rfl,u,HE.out⟩
section
variable {w:World} {p g c N:Nat} {vt:Value} {d:List Nat} {logs:Bool} {tou:List (Nat×Bool)}
theorem MemAt.gp (h:MemAt w p g c N vt d logs tou):g≠p:=fun e=>by
 rcases h.row.2 with⟨e1,-⟩|⟨g',cap,cur,e1,-,hg',-⟩
 ·cases e1
 ·cases e1
  rw[e,h.hp]at hg';simp at hg'
theorem MemAt.gt (h:MemAt w p g c N vt d logs tou):vt.ownBlock≠some g:=fun e=>own_apart h.tr h.row (by decide) g e rfl
theorem MemAt.pt (h:MemAt w p g c N vt d logs tou):vt.ownBlock≠some p:=fun e=>by
 rcases h.tr.2 with⟨e1,-⟩|⟨g',cap,cur,e1,-,hg',-⟩
 ·rw[e1]at e;cases e
 ·rw[e1]at e;cases e
  rw[h.hp]at hg';simp at hg'
theorem MemAt.glt (h:MemAt w p g c N vt d logs tou):g<w.heap.size:=by
 rcases h.row.2 with⟨e1,-⟩|⟨g',cap,cur,e1,-,hg',-⟩
 ·cases e1
 ·cases e1
  exact(Array.getElem?_eq_some_iff.1 hg').1
theorem MemAt.plt (h:MemAt w p g c N vt d logs tou):p<w.heap.size:=(Array.getElem?_eq_some_iff.1 h.hp).1
theorem MemAt.cell (h:MemAt w p g c N vt d logs tou) {q:Nat} (hq:q<N):w.cell? ⟨g,q,none⟩=some (.int .u8 (d.getD q 0:Nat)):=by
 obtain⟨g',cap,e,-,-,-,hc⟩:=own_form h.row (by have:=h.sizes.1;omega);cases e;have hl:=h.len;rw[hc q (by rw[encN_length];omega),encN_at .u8 d q (by omega)]
theorem MemAt.froz (h:MemAt w p g c N vt d logs tou) (q:Nat):w.frozen? ⟨g,q,none⟩=false:=by
 rcases h.row.2 with⟨e1,-⟩|⟨g',cap,cur,e1,-,hg',-⟩
 ·cases e1
 ·cases e1
  exact frozen_of_row w g q _ _ hg'
theorem MemAt.put (h:MemAt w p g c N vt d logs tou) {q x:Nat} (hq:q<N) (hx:x<256):MemAt (w.setCell ⟨g,q,none⟩ (.int .u8 x)) p g c N vt (d.set q x) logs tou:=by
 refine⟨(Below.heap_setCell _ _ _ _ (fun e=>h.gp e.symm)).trans h.hp,⟨by rw[encN_length,List.length_set,h.len];omega,?_⟩,ownsRow_setCell_other h.tr h.gt _,by rw[List.length_set];exact h.len,h.k,fun y hy=>?_,h.tl⟩
 ·rcases h.row.2 with⟨e1,-⟩|⟨g',cap,cur,e1,hb,hg',hn,hm,hs,ht⟩
  ·cases e1
  ·cases e1
   refine .inr ⟨g,c,cur.setIfInBounds q (.int .u8 x),rfl,hb,heap_setCell_same w g q _ _ _ hg',hn,hm,by simpa using hs,?_⟩;rw[←encN_set,←ht,Array.toList_setIfInBounds,List.take_set]
 ·rcases List.mem_or_eq_of_mem_set hy with h1|rfl
  ·exact h.lt y h1
  ·exact hx
theorem callFunc345 (args:Array Value) (W:World):(callFunc 134 args).run Tryz.prog W=.ok (.enter 134 args) W:=by simp[go_sem]
theorem callFunc468 (args:Array Value) (W:World):(callFunc 176 args).run Tryz.prog W=.ok (.enter 176 args) W:=by simp[go_sem]
theorem callFunc472 (args:Array Value) (W:World):(callFunc 180 args).run Tryz.prog W=.ok (.enter 180 args) W:=by simp[go_sem]
theorem callFunc473 (args:Array Value) (W:World):(callFunc 181 args).run Tryz.prog W=.ok (.enter 181 args) W:=by simp[go_sem]
theorem store1_any (h:MemAt w p g c N vt d logs tou) {k q q1 q2:Nat} (hk:k<4) (hq:q<N) {b:Int} (h1:w.cell? ⟨q1,0,none⟩=some (.pointer (some ⟨p,0,none⟩))) (h2:w.cell? ⟨q2,k,none⟩=some (.int .u8 b)) :
 Calls Tryz.prog 134 #[.int .i64 k,.int .u32 q,.pointer (some ⟨q2,0,none⟩),.pointer (some ⟨q1,0,none⟩)] w fun e w'=>e=.returned (.tuple #[])∧w'=w.drew.setCell ⟨g,q,none⟩ (.int .u8 b):=by
 have hmx:Tryz.prog.follows .mixedOrders=true:=by kernel_rfl
 obtain⟨⟨c0,c1,c2⟩,-⟩:=cells379 h.hp;have hg:=h.cell hq;have hf:=h.froz q;have hki:(k:Int)<4:=by omega
 have hqi:(q:Int)<(N:Int):=by omega
 clear h;go_enter Tryz.func134,Tryz.ntmps134;go_wp2_with fail;refine wp_region_still_tail 9 hmx (by kernel_rfl) ?_;simp only[List.take_succ_cons,List.take_zero,List.drop_succ_cons,List.drop_zero]
 repeat still_step
 refine wpStill_nil ?_;change wpList _ _ _ _ _ w.drew;go_wp2
 go_end0
 exact⟨rfl,rfl⟩
end
section
variable {w:World} {p g c N:Nat} {vt:Value} {d:List Nat} {logs:Bool} {tou:List (Nat×Bool)}
def fourV (v:Nat):Array Value:=#[.int .u8 ((v:Int)%256),.int .u8 ((v:Int) / 256%256),.int .u8 ((v:Int) / 65536%256),.int .u8 ((v:Int) / 16777216)]
theorem fourV_at {v k:Nat} (hv:v<4294967296) (hk:k<4):(fourV v)[k]?=some (.int .u8 ((v / 256 ^ k%256:Nat):Int)):=by
 have:k=0∨k=1∨k=2∨k=3:=by omega
 rcases this with rfl|rfl|rfl|rfl
 ·show some (Value.int .u8 _)=_
  simp
 ·show some (Value.int .u8 _)=_
  simp
 ·show some (Value.int .u8 _)=_
  simp
 ·show some (Value.int .u8 _)=_
  simp only[Option.some.injEq,Value.int.injEq,true_and];omega
theorem store_any (h:MemAt w p g c N vt d logs tou) {a v n:Nat} (ha:a<4294967296) (hv:v<4294967296) (hn:n≤4) :
 Calls Tryz.prog 95 #[.pointer (some ⟨p,0,none⟩),.int .u32 a,.int .u32 v,.int .i64 n] w fun e w'=>e=.returned (.tuple #[])∧∃vt',MemAt w' p g c N vt' (storeN d a v n) logs (touL logs tou (touN N a n true))∧Fr w w' (memF p g vt) (memF p g vt'):=by
 obtain⟨W0,hW0⟩:∃W0,W0=w.alloc (.cells #[.pointer (some ⟨p,0,none⟩)] 83):=⟨_,rfl⟩;have hb0:Below w.heap.size w W0:=by rw[hW0];exact Bel.new _ _
 have hh0:W0.heap[w.heap.size]?=some (.cells #[.pointer (some ⟨p,0,none⟩)] 83 (0,0)):=by rw[hW0];exact heap_alloc_new _ _
 have hc0:=cell_of_row W0 w.heap.size 0 _ _ _ hh0;have hmd:=made_any (h.below hb0);go_enter Tryz.func95,Tryz.ntmps95;go_wp2_with fail;rw[←hW0];refine hmd.mono ?_;rintro e w1⟨rfl,rfl⟩;have HM:=Lib.hid h;obtain⟨W1,hW1⟩:∃W1,W1=(w.alloc (.cells #[.pointer (some ⟨p,0,none⟩)] 83)).alloc (.cells (fourV v) 202):=⟨_,rfl⟩;have HB1:=Lib.hid (show Below w.heap.size w W1 from by rw[hW1];exact Bel.al (Bel.new _ _) _);have hg1:W1.heap[w.heap.size]?=some (.cells #[.pointer (some ⟨p,0,none⟩)] 83 (0,0)):=by rw[hW1,Below.heap_alloc _ _ _ (by simp)];exact heap_alloc_new _ _
 have hg2:W1.heap[w.heap.size+1]?=some (.cells (fourV v) 202 (0,0)):=by
  rw[hW1];have:=heap_alloc_new (w.alloc (.cells #[.pointer (some ⟨p,0,none⟩)] 83)) (.cells (fourV v) 202)
  simpa using this
 have hlt1:=(Array.getElem?_eq_some_iff.1 hg1).1;have hlt2:=(Array.getElem?_eq_some_iff.1 hg2).1
 have HEa:=Lib.hid (each_any 134 (.pointer (some ⟨w.heap.size+1,0,none⟩)) (.pointer (some ⟨w.heap.size,0,none⟩)) (fun _=>False) (fun b=>b=w.heap.size∨b=w.heap.size+1)
  (fun _ W=>W.heap[w.heap.size]?=some (.cells #[.pointer (some ⟨p,0,none⟩)] 83 (0,0))∧W.heap[w.heap.size+1]?=some (.cells (fourV v) 202 (0,0)))
  (fun k=>storeN d a v k) true n a callFunc345 (by omega) ha (HM.out.below HB1.out)
  (fun b hb=>⟨by rcases hb with rfl|rfl<;>assumption,by have:=HM.out.plt;rcases hb with rfl|rfl<;>omega,fun e=>by
   have:b<w.heap.size:=by
    rcases HM.out.tr.2 with⟨e1,-⟩|⟨g',cap,cur,e1,-,hg',-⟩
    ·rw[e1]at e;cases e
    ·rw[e1]at e;cases e
     exact(Array.getElem?_eq_some_iff.1 hg').1
   rcases hb with rfl|rfl<;>omega⟩)
  (fun k W W' hJ hs hR=>⟨(hR _ (.inl rfl)).trans hJ.1,(hR _ (.inr rfl)).trans hJ.2⟩) ⟨hg1,hg2⟩
  (fun k hk W u t hm hJ hs hu=>by
   have hN:=hm.sizes.1;have hq:(a+k)%N<N:=Nat.mod_lt _ (by omega);refine(store1_any hm (by omega) hq (cell_of_row W _ 0 _ _ _ hJ.1) ((cell_of_row W _ k _ _ _ hJ.2).trans (fourV_at hv (by omega)))).mono ?_;rintro e W'⟨rfl,rfl⟩;have hgl:=HM.out.glt;have hmd:=(hm.below (Below.refl _ _).drew).put hq (x:=v / 256 ^ k%256) (Nat.mod_lt _ (by decide));refine⟨rfl,?_,⟨(Below.heap_setCell _ _ _ _ (by show w.heap.size≠g;omega)).trans hJ.1,(Below.heap_setCell _ _ _ _ (by show w.heap.size+1≠g;omega)).trans hJ.2⟩,?_⟩
   ·have hl:=hm.len
    show MemAt _ p g c N u (putN (storeN d a v k) (a+k) (v / 256 ^ k%256)) logs t
    unfold putN;rw[hl];exact hmd
   ·exact((Fr.refl W (fun b=>b=g∨False)).drew).trans (Fr.setCell W.drew (F:=fun b=>b=g∨False) (a:=⟨g,_,none⟩) (.inl rfl) _)))
 clear h hb0 hh0 hmd hg1 hg2 hlt1 hlt2;have hv1:(fourV v)=#[.int .u8 ((v:Int)%256),.int .u8 ((v:Int) / 256%256),.int .u8 ((v:Int) / 65536%256),.int .u8 ((v:Int) / 16777216)]:=rfl;rw[hv1]at hW1;clear hv1;go_wp2_with fail;rw[←hW0]at*;rw[←hW1];refine HEa.out.mono ?_;rintro e w2⟨rfl,vt',he⟩;have HF:=Lib.hid he;clear he;go_wp2_with fail
 go_end0
 exact⟨rfl,vt',HF.out.m,HF.out.out HB1.out (fun b h=>h.elim)⟩
end
section
variable {w:World} {p g c N:Nat} {vt:Value} {d:List Nat} {logs:Bool} {tou:List (Nat×Bool)}
theorem load1_any (h:MemAt w p g c N vt d logs tou) {k q q1 q2:Nat} (hk:k<4) (hq:q<N) {v0:Value} (h1:w.cell? ⟨q1,0,none⟩=some (.pointer (some ⟨p,0,none⟩))) (h2:w.cell? ⟨q2,k,none⟩=some v0) (h3:w.frozen? ⟨q2,k,none⟩=false) :
 Calls Tryz.prog 176 #[.int .i64 k,.int .u32 q,.pointer (some ⟨q1,0,none⟩),.pointer (some ⟨q2,0,none⟩)] w fun e w'=>e=.returned (.tuple #[])∧w'=w.setCell ⟨q2,k,none⟩ (.int .u8 (d.getD q 0:Nat)):=by
 obtain⟨⟨c0,c1,c2⟩,-⟩:=cells379 h.hp;have hg:=h.cell hq;have hki:(k:Int)<4:=by omega
 have hqi:(q:Int)<(N:Int):=by omega
 clear h;generalize d.getD q 0=x at*;go_enter Tryz.func176,Tryz.ntmps176;go_wp2_with fail
 go_end0
 exact⟨rfl,rfl⟩
def loadX (d:List Nat) (a k j:Nat):Nat:=if j<k then byteAt d (a+j)else 0
def loadV (d:List Nat) (a k:Nat):Array Value:=#[.int .u8 (loadX d a k 0),.int .u8 (loadX d a k 1),.int .u8 (loadX d a k 2),.int .u8 (loadX d a k 3)]
theorem loadV_zero (d:List Nat) (a:Nat):loadV d a 0=#[.int .u8 0,.int .u8 0,.int .u8 0,.int .u8 0]:=rfl
theorem loadV_set (d:List Nat) (a:Nat) {k:Nat} (hk:k<4):(loadV d a k).setIfInBounds k (.int .u8 (byteAt d (a+k)))=loadV d a (k+1):=by
 have:k=0∨k=1∨k=2∨k=3:=by omega
 rcases this with rfl|rfl|rfl|rfl<;>rfl
theorem loadN_sum (d:List Nat) (a:Nat) {n:Nat} (hn:n≤4):loadN d a n=loadX d a n 0+loadX d a n 1*256+loadX d a n 2*65536+loadX d a n 3*16777216:=by
 have:n=0∨n=1∨n=2∨n=3∨n=4:=by omega
 rcases this with rfl|rfl|rfl|rfl|rfl<;>simp[loadN,loadX]
theorem byteAt_lt (hd:∀x∈d,x<256) (a:Nat):byteAt d a<256:=by
 unfold byteAt;rw[List.getD_eq_getElem?_getD];cases e:d[a%d.length]? with
 | none=>decide
 | some x=>exact hd x (List.mem_of_getElem? e)
theorem loadX_lt (hd:∀x∈d,x<256) (a k j:Nat):loadX d a k j<256:=by
 unfold loadX
 split
 ·exact byteAt_lt hd _
 ·decide
theorem or32_fact (n x k:Nat) (q:Int) (hq:q=((256 ^ k:Nat):Int)) (hk:k<4) (hn:n<256 ^ k) (hx:x<256) :
 ∃y m:Nat,m=n+x*256 ^ k∧m<256 ^ (k+1)∧(x:Int)*q%4294967296=(y:Int)∧bits .or .u32 (n:Int) (y:Int)=(m:Int):=by
 have hp:(256:Nat) ^ (k+1)≤256 ^ 4:=Nat.pow_le_pow_right (by decide) (by omega);have h8':(256:Nat) ^ 4=4294967296:=by decide
 have hy:x*256 ^ k+256 ^ k≤256 ^ (k+1):=by
  rw[Nat.pow_succ,Nat.mul_comm (256 ^ k) 256];have:=Nat.mul_le_mul_right (256 ^ k) (show x+1≤256 by omega);rw[Nat.succ_mul]at this;exact this
 refine⟨x*256 ^ k,n+x*256 ^ k,rfl,by omega,?_,?_⟩
 ·have e:((x:Nat):Int)*q=((x*256 ^ k:Nat):Int):=by rw[hq,Int.natCast_mul]
  rw[e];omega
 ·rw[u32_or_nat _ _ (by omega) (by omega)]
  congr 1;have e2:(256:Nat) ^ k=2 ^ (8*k):=by rw[Nat.pow_mul]
  rw[e2]at hn⊢;rw[Nat.or_comm,Nat.mul_comm x,←Nat.two_pow_add_eq_or_of_lt hn];omega
theorem zq477 (w:World):(zeroValue 202).run Tryz.prog w=.ok (.agg #[.int .u8 0,.int .u8 0,.int .u8 0,.int .u8 0]) w:=by kernel_rfl
theorem mload_any (h:MemAt w p g c N vt d logs tou) {a n:Nat} (ha:a<4294967296) (hn:n≤4) :
 Calls Tryz.prog 149 #[.pointer (some ⟨p,0,none⟩),.int .u32 a,.int .i64 n] w fun e w'=>e=.returned (.int .u32 (loadN d a n))∧∃vt',MemAt w' p g c N vt' d logs (touL logs tou (touN N a n false))∧Fr w w' (memF p g vt) (memF p g vt'):=by
 have hz:=zq477;obtain⟨W1,hW1⟩:∃W1,W1=(w.alloc (.cells #[.pointer (some ⟨p,0,none⟩)] 83)).alloc (.cells #[.int .u8 0,.int .u8 0,.int .u8 0,.int .u8 0] 202):=⟨_,rfl⟩;have hb1:Below w.heap.size w W1:=by rw[hW1];exact Bel.al (Bel.new _ _) _
 have hg1:W1.heap[w.heap.size]?=some (.cells #[.pointer (some ⟨p,0,none⟩)] 83 (0,0)):=by rw[hW1,Below.heap_alloc _ _ _ (by simp)];exact heap_alloc_new _ _
 have hg2:W1.heap[w.heap.size+1]?=some (.cells (loadV d a 0) 202 (0,0)):=by
  rw[hW1];have:=heap_alloc_new (w.alloc (.cells #[.pointer (some ⟨p,0,none⟩)] 83)) (.cells (loadV d a 0) 202);rw[loadV_zero]at this⊢
  simpa using this
 have hc0:=cell_of_row W1 w.heap.size 0 _ _ _ hg1;have hmd:=made_any (h.below hb1);go_enter Tryz.func149,Tryz.ntmps149;go_wp2_with fail;rw[←hW1];refine hmd.mono ?_;rintro e w1⟨rfl,rfl⟩;have HM:=Lib.hid h;have HB1:=Lib.hid hb1;have hlt1:=(Array.getElem?_eq_some_iff.1 hg1).1;have hlt2:=(Array.getElem?_eq_some_iff.1 hg2).1
 have HEa:=Lib.hid (each_any 176 (.pointer (some ⟨w.heap.size,0,none⟩)) (.pointer (some ⟨w.heap.size+1,0,none⟩)) (fun b=>b=w.heap.size+1) (fun b=>b=w.heap.size∨b=w.heap.size+1)
  (fun k W=>W.heap[w.heap.size]?=some (.cells #[.pointer (some ⟨p,0,none⟩)] 83 (0,0))∧W.heap[w.heap.size+1]?=some (.cells (loadV d a k) 202 (0,0)))
  (fun _=>d) false n a callFunc468 (by omega) ha (HM.out.below HB1.out)
  (fun b hb=>⟨by rcases hb with rfl|rfl<;>assumption,by have:=HM.out.plt;rcases hb with rfl|rfl<;>omega,fun e=>by
   have:b<w.heap.size:=by
    rcases HM.out.tr.2 with⟨e1,-⟩|⟨g',cap,cur,e1,-,hg',-⟩
    ·rw[e1]at e;cases e
    ·rw[e1]at e;cases e
     exact(Array.getElem?_eq_some_iff.1 hg').1
   rcases hb with rfl|rfl<;>omega⟩)
  (fun k W W' hJ hs hR=>⟨(hR _ (.inl rfl)).trans hJ.1,(hR _ (.inr rfl)).trans hJ.2⟩) ⟨hg1,hg2⟩
  (fun k hk W u t hm hJ hs hu=>by
   have hN:=hm.sizes.1;have hq:(a+k)%N<N:=Nat.mod_lt _ (by omega);have hk4:k<4:=by omega
   have hsz:k<(loadV d a k).size:=by show k<4;exact hk4
   refine(load1_any hm hk4 hq (cell_of_row W _ 0 _ _ _ hJ.1) ((cell_of_row W _ k _ _ _ hJ.2).trans (Array.getElem?_eq_getElem hsz)) (frozen_of_row W _ k _ _ hJ.2)).mono ?_;rintro e W'⟨rfl,rfl⟩;have hgl:=HM.out.glt;have hpl:=HM.out.plt;have e1:d.getD ((a+k)%N) 0=byteAt d (a+k):=by unfold byteAt;rw[hm.len]
   rw[e1];have hfr:Fr W (W.setCell ⟨w.heap.size+1,k,none⟩ (.int .u8 (byteAt d (a+k)))) (fun b=>b=w.heap.size+1) (fun b=>b=w.heap.size+1):=Fr.setCell W (F:=fun b=>b=w.heap.size+1) (a:=⟨w.heap.size+1,k,none⟩) rfl _;refine⟨rfl,hm.fr hfr ?_,⟨(Below.heap_setCell _ _ _ _ (by show w.heap.size≠w.heap.size+1;omega)).trans hJ.1,?_⟩,hfr.mono (fun i hi=>.inr hi) (fun i hi=>.inl hi)⟩
   ·rintro b (rfl|rfl|e) hb
    ·omega
    ·omega
    ·exact hu _ (.inr hb) e
   ·rw[←loadV_set d a hk4]
    exact heap_setCell_same W _ k _ _ _ hJ.2))
 clear hb1 hmd hlt1 hlt2 hg1 hg2 hc0;have HW1:=Lib.hid hW1;go_wp2_with fail;rw[←HW1.out];refine HEa.out.mono ?_;rintro e w2⟨rfl,vt',he⟩;have HF:=Lib.hid he;have hh:=he.j.2;have d0:=cell_of_row w2 (w.heap.size+1) 0 _ _ _ hh;have d1:=cell_of_row w2 (w.heap.size+1) 1 _ _ _ hh;have d2:=cell_of_row w2 (w.heap.size+1) 2 _ _ _ hh;have d3:=cell_of_row w2 (w.heap.size+1) 3 _ _ _ hh;replace d0:w2.cell? ⟨w.heap.size+1,0,none⟩=some (.int .u8 (loadX d a n 0)):=d0;replace d1:w2.cell? ⟨w.heap.size+1,1,none⟩=some (.int .u8 (loadX d a n 1)):=d1;replace d2:w2.cell? ⟨w.heap.size+1,2,none⟩=some (.int .u8 (loadX d a n 2)):=d2;replace d3:w2.cell? ⟨w.heap.size+1,3,none⟩=some (.int .u8 (loadX d a n 3)):=d3;have l0:=loadX_lt h.lt a n 0;have l1:=loadX_lt h.lt a n 1;have l2:=loadX_lt h.lt a n 2;have l3:=loadX_lt h.lt a n 3;have HSum:=Lib.hid (loadN_sum d a hn);generalize loadX d a n 0=x0 at*;generalize loadX d a n 1=x1 at*;generalize loadX d a n 2=x2 at*;generalize loadX d a n 3=x3 at*;obtain⟨y1,m1,hm1,lm1,hy1,ho1⟩:=or32_fact x0 x1 1 256 (by decide) (by decide) (by omega) l1;obtain⟨y2,m2,hm2,lm2,hy2,ho2⟩:=or32_fact m1 x2 2 65536 (by decide) (by decide) (by omega) l2;obtain⟨y3,m3,hm3,lm3,hy3,ho3⟩:=or32_fact m2 x3 3 16777216 (by decide) (by decide) (by omega) l3;have hx0:(x0:Int)%4294967296=(x0:Int):=by omega
 have hx1:(x1:Int)%4294967296=(x1:Int):=by omega
 have hx2:(x2:Int)%4294967296=(x2:Int):=by omega
 have hx3:(x3:Int)%4294967296=(x3:Int):=by omega
 have HL:Hid (loadN d a n=m3):=Lib.hid (by rw[HSum.out,hm3,hm2,hm1];try omega);clear he hh l0 l1 l2 l3 HSum hm1 lm1 hm2 lm2 hm3 lm3 h;go_wp2_with fail;go_ret;exact⟨by rw[HL.out];rfl,vt',HF.out.m,HF.out.out HB1.out (fun b h=>by omega)⟩
end
section
variable {w:World} {p g c N:Nat} {vt:Value} {d:List Nat} {logs:Bool} {tou:List (Nat×Bool)}
theorem plain_on (h:MemAt w p g c N vt d true tou) (a n:Nat) :
 Calls Tryz.prog 179 #[.pointer (some ⟨p,0,none⟩),.int .u32 a,.int .i64 n] w fun e w'=>e=.returned (.bool false)∧Below w.heap.size w w':=by
 have hmx:Tryz.prog.follows .mixedOrders=true:=by kernel_rfl
 obtain⟨⟨c0,c1,c2⟩,-⟩:=cells379 h.hp;clear h;go_enter Tryz.func179,Tryz.ntmps179;go_wp2_with fail
 go_quiet(fail)
 go_wp2;go_ret;exact⟨rfl,below_drewN (Below.refl _ _) nq⟩
theorem plain_off (h:MemAt w p g c N vt d false tou) (a n:Nat) (ha:a<4294967296) (hn:n≤65536) :
 Calls Tryz.prog 179 #[.pointer (some ⟨p,0,none⟩),.int .u32 a,.int .i64 n] w fun e w'=>e=.returned (.bool (decide (a%N+n≤N)))∧Below w.heap.size w w':=by
 have hmx:Tryz.prog.follows .mixedOrders=true:=by kernel_rfl
 obtain⟨⟨c0,c1,c2⟩,-⟩:=cells379 h.hp;have hN:=h.sizes.2.1;have hN0:=h.sizes.1;have hpl:=h.plt;have HP:=Lib.hid (fun (W:World) (hb:Below w.heap.size w W)=>place_any (h.below hb) a ha);have HS:=Lib.hid (⟨⟨c0,c1⟩,(Below.refl _ _).drew⟩:(w.drew.cell? ⟨p,0,none⟩=some (.slice (some ⟨g,0,none⟩) N c)∧w.drew.cell? ⟨p,1,none⟩=some (.bool false))∧Below w.heap.size w w.drew);have hq:a%N<N:=Nat.mod_lt _ (by omega);generalize a%N=q at*;have hw1:IntKind.i64.wrap ((q:Int)+(n:Int))=(q:Int)+(n:Int):=IntWalk.i64_in _ (by omega);clear h c0 c1 c2;go_enter Tryz.func179,Tryz.ntmps179;go_wp2_with fail
 go_region_held3(fun w'=>(w'.cell? ⟨p,0,none⟩=some (.slice (some ⟨g,0,none⟩) N c)∧w'.cell? ⟨p,1,none⟩=some (.bool false))∧Below w.heap.size w w')
  (first|assumption|exact HS.out)
  ((go_at_call 163;refine(HP.out _ ?_).mono ?_;exact(by assumption:(_∧_)∧Below w.heap.size w _).2;rintro e wR⟨rfl,rfl⟩))
 go_wp2;go_ret;have hw0:IntKind.i64.wrap (q:Int)=(q:Int):=IntWalk.i64_in _ (by omega);exact⟨ret_boolE (by rw[hw0,hw1,Bool.eq_iff_iff];simp;omega),(by assumption:(_∧_)∧Below w.heap.size w _).2⟩
theorem plain_any (h:MemAt w p g c N vt d logs tou) (a n:Nat) (ha:a<4294967296) (hn:n≤65536) :
 Calls Tryz.prog 179 #[.pointer (some ⟨p,0,none⟩),.int .u32 a,.int .i64 n] w fun e w'=>e=.returned (.bool (!logs&&decide (a%N+n≤N)))∧Below w.heap.size w w':=by
 cases logs
 ·simpa using plain_off h a n ha hn
 ·simpa using plain_on h a n
end
theorem ModAt.below {W W':World} {B mb:Nat} {m:Img} (h:ModAt W B mb m) (hb:Below W.heap.size W W'):ModAt W' B mb m:=by
 obtain⟨h0,tb,b,vm,uc,vd,uj,ud,un,hm,ht,⟨c0,c1,c2,c3,c4,c5,c6,c7,c8,c9,c10,c11⟩,hi,⟨B',hB,hf⟩,hd,hv⟩:=h;have hl:=World.block_lt_of_cell? _ _ hm;have hl2:=World.block_lt_of_cell? _ _ c0
 exact⟨h0,tb,b,vm,uc,vd,uj,ud,un,(hb.cell (p:=⟨mb,0,none⟩) hl).trans hm,ht,
  ⟨(hb.cell (p:=⟨tb,0,none⟩) hl2).trans c0,(hb.cell (p:=⟨tb,1,none⟩) hl2).trans c1,(hb.cell (p:=⟨tb,2,none⟩) hl2).trans c2,(hb.cell (p:=⟨tb,3,none⟩) hl2).trans c3,(hb.cell (p:=⟨tb,4,none⟩) hl2).trans c4,(hb.cell (p:=⟨tb,5,none⟩) hl2).trans c5,(hb.cell (p:=⟨tb,6,none⟩) hl2).trans c6,(hb.cell (p:=⟨tb,7,none⟩) hl2).trans c7,(hb.cell (p:=⟨tb,8,none⟩) hl2).trans c8,(hb.cell (p:=⟨tb,9,none⟩) hl2).trans c9,(hb.cell (p:=⟨tb,10,none⟩) hl2).trans c10,(hb.cell (p:=⟨tb,11,none⟩) hl2).trans c11⟩,
  hi.below hb,⟨B',hB,hf.below hb⟩,own_below hd hb,own_below hv hb⟩
theorem all_mod (mb tb:Nat) (w:World) (h:w.cell? ⟨mb,0,none⟩=some (.pointer (some ⟨tb,0,none⟩))) :
 Calls Tryz.prog 49 #[.pointer (some ⟨mb,0,none⟩)] w fun e w'=>e=.returned (.pointer (some ⟨tb,0,none⟩))∧w=w':=by
 go_enter Tryz.func49,Tryz.ntmps49;go_wp2_with fail;go_ret;exact⟨rfl,rfl⟩
theorem bitsOf_any (mb:Nat) (m:Img) (B:Nat) (w:World) (h:ModAt w B mb m) :
 Calls Tryz.prog 42 #[.pointer (some ⟨mb,0,none⟩)] w fun e w'=>e=.returned (.int .i64 (bitsI m))∧w=w':=by
 obtain⟨h0,tb,b,vm,uc,vd,uj,ud,un,hm,ht,⟨c0,c1,c2,c3,c4,c5,c6,c7,c8,c9,c10,c11⟩,hi,⟨B',hB,hf⟩,hd,hv⟩:=h;have HA:=Lib.hid (all_mod mb tb w hm);clear hi hf hd hv;go_enter Tryz.func42,Tryz.ntmps42;go_wp2_with fail;refine HA.out.mono ?_;rintro e w1⟨rfl,rfl⟩;go_wp2_with fail;go_ret;exact⟨rfl,rfl⟩
def depthAt (D:List Int) (i:Nat):Int:=D.getD i (-1)
theorem depth_any (xa:Option Addr) (xn xc:Nat) (D:List Int) (i:Nat) (hi:i<4294967296) (w:World) (B:Nat) (v:Value) (h:w.ownsRow B 3 1 v D.length (encZ D)) :
 Calls Tryz.prog 97 #[.agg #[.slice xa xn xc,v],.int .u32 i] w fun e w'=>e=.returned (.int .i64 (depthAt D i))∧Below w.heap.size w w':=by
 obtain⟨sa,sc,rfl,hnc,hcm,hp⟩:=own_sl h;have hl:(encZ D).length=D.length:=by simp[encZ]
 have hm:D.length≤9223372036854775807:=by unfold maxLen at hcm;omega
 have hu1:IntKind.u64.wrap ((i:Nat):Int)=((i:Nat):Int):=by rw[IntKind.wrap_u64];omega
 have hu2:IntKind.u64.wrap ((D.length:Nat):Int)=((D.length:Nat):Int):=by rw[IntKind.wrap_u64];omega
 by_cases hlt:i<D.length
 ·obtain⟨g,rfl,hg,hc⟩:=hp (by omega)
  have hci:=hc i (by omega);have hge:¬((D.length:Int)≤(i:Int)):=by omega
  have hki:(i:Int)<(D.length:Int):=by omega
  have hk0:(0:Int)≤(i:Int):=by omega
  have hz:(encZ D)[i]?=some (.int .i64 (depthAt D i)):=by
   simp[encZ,depthAt,List.getD_eq_getElem?_getD,hlt]
  have hcell:=hci.trans hz;have hcell':=((Bel.new w (.cells #[.slice xa xn xc,.slice (some ⟨g,0,none⟩) D.length sc] 115)).cell (p:=⟨g,i,none⟩) hg).trans hcell;clear hp hc hci hz h;go_enter Tryz.func97,Tryz.ntmps97;go_wp2_with fail;go_ret;exact⟨rfl,Bel.new w _⟩
 ·have hge:(D.length:Int)≤(i:Int):=by omega
  have hz:depthAt D i=-1:=by
   unfold depthAt;rw[List.getD_eq_getElem?_getD,List.getElem?_eq_none (by omega)];rfl
  rw[hz];clear hp h;go_enter Tryz.func97,Tryz.ntmps97;go_wp2_with fail;go_ret;exact⟨rfl,Bel.new w _⟩
theorem depthOf_any (mb:Nat) (m:Img) (B:Nat) (w:World) (h:ModAt w B mb m) (i:Nat) (hi:i<4294967296) :
 Calls Tryz.prog 55 #[.pointer (some ⟨mb,0,none⟩),.int .u32 i] w fun e w'=>e=.returned (.int .i64 (depthAt (flowN m.code m.js).1 i))∧Below w.heap.size w w':=by
 obtain⟨h0,tb,b,vm,uc,vd,uj,ud,un,hm,ht,⟨c0,c1,c2,c3,c4,c5,c6,c7,c8,c9,c10,c11⟩,hio,⟨B',hB,hf⟩,hd,hv⟩:=h;have HA:=Lib.hid (all_mod mb tb w hm);obtain⟨a1,n1,rfl,-⟩:=own_sl hio.c;have HD:=Lib.hid (depth_any a1 m.code.length n1 (flowN m.code m.js).1 i hi w B vd hd);obtain⟨a2,n2,rfl,-⟩:=own_sl hd;generalize (flowN m.code m.js).1=D at*;clear hio hf hd hv;go_enter Tryz.func55,Tryz.ntmps55;go_wp2_with fail;refine HA.out.mono ?_;rintro e w1⟨rfl,rfl⟩;go_wp2_with fail;refine HD.out.mono ?_;rintro e w1⟨rfl,hb⟩;have HB:=Lib.hid hb;clear hb;go_wp2_with fail;go_ret;exact⟨rfl,HB.out⟩
theorem image_any (mb:Nat) (m:Img) (B:Nat) (w:World) (hs:Small m) (h:ModAt w B mb m) (w0:World) (xc xj xd xn:Value) (hx:ImgAt w0 xc xj xd xn m) :
 Calls Tryz.prog 40 #[.pointer (some ⟨mb,0,none⟩)] w fun e w'=>∃uc uj ud un,e=.returned (.agg #[uc,uj,ud,.int .u32 m.zero,.int .u32 m.stack,un])∧ImgOwn w' w.heap.size uc uj ud un m∧Below w.heap.size w w':=by
 obtain⟨h0,tb,b,vm,uc,vd,uj,ud,un,hm,ht,⟨c0,c1,c2,c3,c4,c5,c6,c7,c8,c9,c10,c11⟩,hi,⟨B',hB,hf⟩,hd,hv⟩:=h;have hz:=zero28;have HI:=Lib.hid (hi.at hx);obtain⟨a1,n1,rfl,-⟩:=own_sl hi.c;obtain⟨a2,n2,rfl,-⟩:=own_sl hi.j;obtain⟨a3,n3,rfl,-⟩:=own_sl hi.d;obtain⟨a4,n4,rfl,-⟩:=own_sl hi.n;have hl1:=World.block_lt_of_cell? _ _ hm;have hl2:=World.block_lt_of_cell? _ _ c0;clear hi hf hd hv;obtain⟨Wa,hWa⟩:∃Wa,Wa=w.alloc (.cells #[.slice none 0 0,.slice none 0 0,.slice none 0 0,.int .u32 0,.int .u32 0,.slice none 0 0] 28):=⟨_,rfl⟩;have hba:Below w.heap.size w Wa:=by rw[hWa];exact Bel.new _ _
 have HA:=Lib.hid (all_mod mb tb Wa ((hba.cell (p:=⟨mb,0,none⟩) hl1).trans hm));have HCP:=Lib.hid (copied_any _ _ _ _ m hs Wa (HI.out.below hba));have e4:=(hba.cell (p:=⟨tb,4,none⟩) hl2).trans c4;have e5:=(hba.cell (p:=⟨tb,5,none⟩) hl2).trans c5;have e6:=(hba.cell (p:=⟨tb,6,none⟩) hl2).trans c6;have e7:=(hba.cell (p:=⟨tb,7,none⟩) hl2).trans c7;have e8:=(hba.cell (p:=⟨tb,8,none⟩) hl2).trans c8;have e9:=(hba.cell (p:=⟨tb,9,none⟩) hl2).trans c9;have hha:Wa.heap[w.heap.size]?=some (.cells #[.slice none 0 0,.slice none 0 0,.slice none 0 0,.int .u32 0,.int .u32 0,.slice none 0 0] 28):=by rw[hWa];exact heap_alloc_new w _
 have hsa:w.heap.size<Wa.heap.size:=by rw[hWa];simp
 have HHa:=Lib.hid hha;have HBa:=Lib.hid hba;clear c0 c1 c2 c3 c4 c5 c6 c7 c8 c9 c10 c11 hm hha hba;go_enter Tryz.func40,Tryz.ntmps40;go_wp2_with fail;rw[←hWa];clear hWa;refine HA.out.mono ?_;rintro e w1⟨rfl,rfl⟩;go_wp2_with fail;refine HCP.out.mono ?_;rintro e w2⟨uc,uj,ud,un,rfl,hio,hb2⟩;obtain⟨b1,m1,rfl,-⟩:=own_sl hio.c;obtain⟨b2,m2,rfl,-⟩:=own_sl hio.j;obtain⟨b3,m3,rfl,-⟩:=own_sl hio.d;obtain⟨b4,m4,rfl,-⟩:=own_sl hio.n;have HH2:=Lib.hid ((hb2.block w.heap.size hsa).trans HHa.out);have HIO:=Lib.hid hio;have HB2:=Lib.hid hb2;clear hio hb2
 go_wp2_with(((with_reducible refine wpList_store_row (o:=⟨none,.store 28 (.tmp 2) (.tmp 8),_,_,_,none⟩) rfl 28 _ _ rfl w.heap.size #[.slice b1 m.code.length m1,.slice b2 m.js.length m2,.slice b3 m.data.length m3,.int .u32 m.zero,.int .u32 m.stack,.slice b4 m.lx.length m4] ?_ ?_ 28 _ HH2.out ?_ ?_ ?_ ?_);rfl;rfl;exact info28;rfl;(simp[Value.oneCell'])))
 refine bodyPost_ret (v:=.agg #[.slice b1 m.code.length m1,.slice b2 m.js.length m2,.slice b3 m.data.length m3,.int .u32 m.zero,.int .u32 m.stack,.slice b4 m.lx.length m4]) (results_cell_row Tryz.results40 _ _ w.heap.size 28 _ (0,0) _ rfl (setRow_heap _ _ _ _ _ _ HH2.out) Tryz.underlying28 rfl info28) rfl ⟨_,_,_,_,rfl,?_,?_⟩
 ·exact⟨own_downT (own_setRow HIO.out.c hsa) (Nat.le_of_lt hsa),own_downT (own_setRow HIO.out.j hsa) (Nat.le_of_lt hsa),own_downT (own_setRow HIO.out.d hsa) (Nat.le_of_lt hsa),own_downT (own_setRow HIO.out.n hsa) (Nat.le_of_lt hsa)⟩
 ·exact(Bel.tr HBa.out HB2.out).trans (below_setRowB _ _ _ (Nat.le_refl _))
theorem digest_any (mb:Nat) (m:Img) (B:Nat) (w:World) (h:ModAt w B mb m) :
 Calls Tryz.prog 20 #[.pointer (some ⟨mb,0,none⟩)] w fun e w'=>e=.returned (.int .u64 (digN m))∧w=w':=by
 obtain⟨h0,tb,b,vm,uc,vd,uj,ud,un,hm,ht,⟨c0,c1,c2,c3,c4,c5,c6,c7,c8,c9,c10,c11⟩,hi,⟨B',hB,hf⟩,hd,hv⟩:=h;have HA:=Lib.hid (all_mod mb tb w hm);clear hi hf hd hv;go_enter Tryz.func20,Tryz.ntmps20;go_wp2_with fail;refine HA.out.mono ?_;rintro e w1⟨rfl,rfl⟩;go_wp2_with fail;go_ret;exact⟨rfl,rfl⟩
theorem run_build122 (w:World):(Instr.build 106 #[]).run Tryz.prog w=.ok (.agg #[.int .u8 0,.int .u32 0]) w:=by kernel_rfl
theorem zero122 (w:World):(zeroValue 106).run Tryz.prog w=.ok (.agg #[.int .u8 0,.int .u32 0]) w:=by kernel_rfl
def instrV (code:List (Nat×Nat)) (i:Nat):Value:=.agg #[.int .u8 (opAt code i),.int .u32 (argAt code i)]
theorem at_any (mb:Nat) (m:Img) (B:Nat) (w:World) (h:ModAt w B mb m) (i:Nat) (hi32:i<4294967296) (hl16:m.code.length≤16384) :
 Calls Tryz.prog 53 #[.pointer (some ⟨mb,0,none⟩),.int .u32 i] w fun e w'=>e=.returned (.tuple #[instrV m.code i,.bool (decide (i<m.code.length))])∧Below w.heap.size w w':=by
 have hz:=zero122;have hb122:=run_build122;obtain⟨Wa,hWa⟩:∃Wa,Wa=w.alloc (.cells #[.int .u8 0,.int .u32 0] 106):=⟨_,rfl⟩;have hba:Below w.heap.size w Wa:=by rw[hWa];exact Bel.new _ _
 obtain⟨h0,tb,b,vm,uc,vd,uj,ud,un,hm,ht,⟨c0,c1,c2,c3,c4,c5,c6,c7,c8,c9,c10,c11⟩,hi,⟨B',hB,hf⟩,hd,hv⟩:=h;have hl1:=World.block_lt_of_cell? _ _ hm;have hlt2:=World.block_lt_of_cell? _ _ c0;have HA:=Lib.hid (all_mod mb tb Wa ((hba.cell (p:=⟨mb,0,none⟩) hl1).trans hm));have d2:=(hba.cell (p:=⟨tb,2,none⟩) hlt2).trans c2;clear c0 c1 c2 c3 c4 c5 c6 c7 c8 c9 c10 c11 hm;have hu1:IntKind.u64.wrap ((i:Nat):Int)=((i:Nat):Int):=by rw[IntKind.wrap_u64];omega
 have hu2:IntKind.u64.wrap ((m.code.length:Nat):Int)=((m.code.length:Nat):Int):=by rw[IntKind.wrap_u64];omega
 obtain⟨a1,n1,rfl,hnc,hcm,hp⟩:=own_sl hi.c;have hl2:=encI_length m.code;unfold instrV;by_cases hlt:i<m.code.length
 ·obtain⟨g,rfl,hg,hc⟩:=hp (by omega)
  have q0:=((hba.cell (p:=⟨g,i*2,none⟩) hg).trans (hc (i*2) (by omega))).trans (encI_op m.code i hlt);have q1:=((hba.cell (p:=⟨g,i*2+1,none⟩) hg).trans (hc (i*2+1) (by omega))).trans (encI_arg m.code i hlt);have hge:¬((m.code.length:Int)≤(i:Int)):=by omega
  have hki:(i:Int)<(m.code.length:Int):=by omega
  have hk0:(0:Int)≤(i:Int):=by omega
  have hd1:decide (i<m.code.length)=true:=decide_eq_true hlt;rw[hd1];unfold opAt argAt;generalize m.code.getD i (0,0)=ins at*;obtain⟨o,a⟩:=ins;simp only at q0 q1;rw[hWa]at q0 q1 d2;clear hp hc hf hd hv hi hba;go_enter Tryz.func53,Tryz.ntmps53;go_wp2_with fail;rw[←hWa];refine HA.out.mono ?_;rintro e w1⟨rfl,rfl⟩;rw[hWa];go_wp2_with fail;exact bodyPost_ret (v:=.tuple #[.agg #[.int .u8 o,.int .u32 a],.bool true]) (by simp[results,Tryz.results53,go_sem]) rfl ⟨rfl,Bel.new _ _⟩
 ·have hge:(m.code.length:Int)≤(i:Int):=by omega
  have hd1:decide (i<m.code.length)=false:=decide_eq_false hlt;have hz1:opAt m.code i=0:=by unfold opAt;rw[List.getD_eq_getElem?_getD,List.getElem?_eq_none (by omega)];rfl
  have hz2:argAt m.code i=0:=by unfold argAt;rw[List.getD_eq_getElem?_getD,List.getElem?_eq_none (by omega)];rfl
  rw[hd1,hz1,hz2];rw[hWa]at d2;clear hp hf hd hv hi hba;go_enter Tryz.func53,Tryz.ntmps53;go_wp2_with fail;rw[←hWa];refine HA.out.mono ?_;rintro e w1⟨rfl,rfl⟩;rw[hWa];go_wp2_with fail;exact bodyPost_ret (v:=.tuple #[.agg #[.int .u8 0,.int .u32 0],.bool false]) (by simp[results,Tryz.results53,go_sem]) rfl ⟨rfl,Bel.new _ _⟩
def prcN (m:Img) (x:Nat):Nat×Nat×Nat:=if x<m.code.length then(psTo m.code m.code.length).getD ((ofTo m.code m.code.length).getD x 0) (0,0,0)else(0,0,0)
def needN (m:Img) (x:Nat):Int:=if x<m.code.length then(flowN m.code m.js).2.1.getD ((ofTo m.code m.code.length).getD x 0) 0 else 0
def prcV (p:Nat×Nat×Nat) (n:Int):Value:=.agg #[.int .u32 p.1,.int .u32 p.2.1,.int .u32 p.2.2,.int .i64 n]
theorem info259:(Tryz.prog.info? 126).map (·.size)=some 4:=by kernel_rfl
theorem size259 (a b c d:Value):(Tryz.prog.info? 126).map (·.size)=some (#[a,b,c,d]:Array Value).size:=info259
theorem whereproc_any {w:World} {B b:Nat} {vp vo vt vm:Value} {ps:List (Nat×Nat×Nat)} {ofs:List Nat} {us:List Value} {ts:List (List Nat)} {ms:List Int} (h:PAt w B b vp vo vt ps ofs us ts)
 (hv:w.ownsRow 0 3 1 vm ms.length (encZ ms)) (k:Nat) (hk:k<ps.length) (hk2:k<ms.length) :
 Calls Tryz.prog 136 #[.agg #[.pointer (some ⟨b,0,none⟩),vm],.int .i64 k] w fun e w'=>e=.returned (prcV (ps.getD k (0,0,0)) (ms.getD k 0))∧Below w.heap.size w w':=by
 have hz39:=zero39;obtain⟨am,nm,rfl,hnc,hcm,hp⟩:=own_sl hv;obtain⟨g,rfl,hg,hc⟩:=hp (by omega);have hq:w.cell? ⟨g,k,none⟩=some (.int .i64 (ms.getD k 0)):=(hc k (by simpa[encZ]using hk2)).trans (by simp[encZ,List.getD_eq_getElem?_getD,hk2]);obtain⟨Wa,hWa⟩:∃Wa,Wa=(w.alloc (.cells #[.pointer (some ⟨b,0,none⟩),.slice (some ⟨g,0,none⟩) ms.length nm] 113)).alloc (.cells #[.int .u32 0,.int .u32 0,.int .u32 0,.int .i64 0] 126):=⟨_,rfl⟩;have hba:Below w.heap.size w Wa:=by rw[hWa];exact Bel.al (Bel.new _ _) _
 have hs0:Wa.heap.size=w.heap.size+2:=by rw[hWa];simp
 have HP:=Lib.hid (proc_any (h.below hba) (k:Int));unfold procN procV at HP;rw[if_pos ⟨by omega,by omega⟩,Int.toNat_natCast]at HP;have b1:Wa.cell? ⟨w.heap.size,1,none⟩=some (.slice (some ⟨g,0,none⟩) ms.length nm):=by rw[hWa];simp[go_sem]
 have hh0:Wa.heap[w.heap.size+1]?=some (.cells #[.int .u32 0,.int .u32 0,.int .u32 0,.int .i64 0] 126):=by
  rw[hWa];have:=heap_alloc_new (w.alloc (.cells #[.pointer (some ⟨b,0,none⟩),.slice (some ⟨g,0,none⟩) ms.length nm] 113)) (.cells #[.int .u32 0,.int .u32 0,.int .u32 0,.int .i64 0] 126)
  simpa using this
 unfold prcV;generalize ps.getD k (0,0,0)=p at*;obtain⟨p0,p1,p2⟩:=p;generalize ms.getD k 0=q at*;have hki:(k:Int)<(ms.length:Int):=by omega
 have hk0:(0:Int)≤(k:Int):=by omega
 have hm:ms.length≤9223372036854775807:=by unfold maxLen at hcm;omega
 have HH0:=Lib.hid hh0;have HBa:=Lib.hid hba;clear h hv hp hc hh0 hba;go_enter Tryz.func136,Tryz.ntmps136;go_wp2_with fail;rw[←hWa];refine HP.out.mono ?_;rintro e w1⟨rfl,hb1⟩;have d1:=(hb1.cell (p:=⟨w.heap.size,1,none⟩) (show w.heap.size<Wa.heap.size by omega)).trans b1;have d2:=((Bel.tr HBa.out hb1).cell (p:=⟨g,k,none⟩) hg).trans hq;have hg1:g<w1.heap.size:=by have:=hb1.size;omega
 have hg2:w1.heap.size≠g:=by omega
 have hz1:w.heap.size<w1.heap.size:=by have:=hb1.size;omega
 have hz2:w.heap.size+1<w1.heap.size:=by have:=hb1.size;omega
 have hz3:w1.heap.size≠w.heap.size:=by omega
 have hz4:w1.heap.size≠w.heap.size+1:=by omega
 have HH1:=Lib.hid ((hb1.block (w.heap.size+1) (by omega)).trans HH0.out);have HB1:=Lib.hid (Bel.tr HBa.out hb1);have HH2:=Lib.hid ((Below.heap_alloc w1 (.cells #[.int .u32 p0,.int .u32 p1,.int .u32 p2,.int .i64 q] 126) (w.heap.size+1) hz2).trans HH1.out);have hsz:=size259 (.int .u32 p0) (.int .u32 p1) (.int .u32 p2) (.int .i64 q);clear hb1 hWa b1 hq HP
 go_wp2_with(((with_reducible refine wpList_store_row (o:=⟨none,.store 126 (.tmp 4) (.tmp 20),_,_,_,none⟩) rfl 126 _ _ rfl (w.heap.size+1) #[.int .u32 p0,.int .u32 p1,.int .u32 p2,.int .i64 q] ?_ ?_ 126 _ HH2.out ?_ ?_ ?_ ?_);rfl;rfl;exact hsz;rfl;(simp[Value.oneCell'])))
 refine bodyPost_ret (v:=.agg #[.int .u32 p0,.int .u32 p1,.int .u32 p2,.int .i64 q]) (results_cell_row Tryz.results136 _ _ (w.heap.size+1) 126 _ (0,0) _ rfl (setRow_heap _ _ _ _ _ _ HH2.out) Tryz.underlying126 rfl info259) rfl ⟨rfl,?_⟩;exact below_setRow (Bel.al HB1.out _) _ (by omega) _
def GoR.then (r q:GoR):GoR:=⟨q.st,r.tou++q.tou,r.ev++q.ev,q.reps,r.used+q.used,q.ask⟩
theorem behind_then (p:Stp) (r q:GoR):(GoR.behind p r).then q=GoR.behind p (r.then q):=by
 simp only[GoR.behind,GoR.then,List.append_assoc];congr 1;omega
theorem then_none (s:St) (reps:List Rep) (a:Option Ev) (q:GoR):GoR.then ⟨s,[],[],reps,0,a⟩ q=q:=by
 simp[GoR.then]
theorem goM_cut (m:Mo) (gr:List (Nat×Int)) (g:Nat):∀(f:Nat) (reps:List Rep) (s:St),goM m gr (f+g) reps s=(goM m gr f reps s).then (goM m gr g (goM m gr f reps s).reps (goM m gr f reps s).st)
 | 0,reps,s=>by rw[Nat.zero_add,goM,then_none]
 | f+1,reps,s=>by
  rw[show f+1+g=(f+g)+1 from by omega,goM,goM];by_cases h:s.life=1∧waitsM m gr reps s=none
  ·rw[if_pos h,if_pos h,behind_then]
   congr 1;exact goM_cut m gr g f _ _
  ·rw[if_neg h,if_neg h,then_none]
   cases g with
   | zero=>rfl
   | succ g=>rw[goM,if_neg h]
theorem goM_used (m:Mo) (gr:List (Nat×Int)):∀(f:Nat) (reps:List Rep) (s:St),(goM m gr f reps s).used≤f
 | 0,_,_=>Nat.le_refl _
 | f+1,reps,s=>by
  rw[goM]
  split
  ·have:=goM_used m gr f (stepM m gr reps s).reps (stepM m gr reps s).st
   show _+1≤_
   omega
  ·exact Nat.zero_le _
theorem room_iff {m:Mo} {n a:Nat}:m.room n a=true↔0≤m.depth a∧m.depth a≤n∧(n:Int) - m.depth a+m.need a≤64:=by
 simp only[Mo.room,Bool.and_eq_true,decide_eq_true_eq]
section
variable {m:Mo} (h:m.Ok)
include h
theorem Mo.Ok.dl:m.D.length=m.im.code.length:=h.d.dl
theorem Mo.Ok.ol:m.ofs.length=m.im.code.length:=h.f.tl.ol
theorem Mo.Ok.lt {a:Nat} (h0:0≤m.depth a):a<m.im.code.length:=by
 unfold Mo.depth at h0
 split at h0
 ·rename_i hh;rw[h.dl]at hh;exact hh
 ·omega
theorem Mo.Ok.depth_eq {a:Nat} (ha:a<m.im.code.length):m.depth a=m.D.getD a (-1):=by
 unfold Mo.depth;rw[if_pos (by rw[h.dl];exact ha)]
theorem Mo.Ok.need_eq {a:Nat} (ha:a<m.im.code.length):m.need a=m.ms.getD (m.ofs.getD a 0) 0:=by
 unfold Mo.need;rw[if_pos (by rw[h.ol];exact ha)]
theorem Mo.Ok.step {a:Nat} (h0:0≤m.depth a):(takesOf (opAt m.im.code a):Int)≤m.depth a∧(kindOf (opAt m.im.code a)=7→m.depth a=1)∧m.depth a≤m.need a∧
 m.depth a - takesOf (opAt m.im.code a)+givesOf (opAt m.im.code a)≤m.need a∧
 ∀t∈nextN m.im.code m.im.js a,t<m.im.code.length∧m.depth t=m.depth a - takesOf (opAt m.im.code a)+givesOf (opAt m.im.code a)∧m.need t=m.need a:=by
 have ha:=h.lt h0;have hc:=h.d.cl a ha (by rw[←h.depth_eq ha];exact h0);obtain⟨f1,f2,f3⟩:=depFault_zero hc.f;have m1:=hc.m1;have m2:=hc.m2;rw[h.need_eq ha,h.depth_eq ha];refine⟨f1,f3,m1,m2,fun t ht=>?_⟩;obtain⟨n1,n2⟩:=h.f.next_of ha ht;refine⟨n1,?_,?_⟩
 ·rw[h.depth_eq n1];exact hc.nx t ht
 ·rw[h.need_eq n1]
  show m.ms.getD ((ofTo m.im.code m.im.code.length).getD t 0) 0=_
  rw[n2];rfl
theorem Mo.Ok.room_next {a t n n':Nat} (hr:m.room n a=true) (ht:t∈nextN m.im.code m.im.js a) (hn:(n':Int)=n - takesOf (opAt m.im.code a)+givesOf (opAt m.im.code a)):m.room n' t=true:=by
 obtain⟨r1,r2,r3⟩:=room_iff.1 hr;obtain⟨s1,s2,s3,s4,s5⟩:=h.step r1;obtain⟨t1,t2,t3⟩:=s5 t ht;rw[room_iff,t2,t3];omega
end
theorem putN_length (d:List Nat) (a x:Nat):(putN d a x).length=d.length:=by simp[putN]
theorem storeN_length (d:List Nat) (a v:Nat):∀n,(storeN d a v n).length=d.length
 | 0=>rfl
 | n+1=>by rw[storeN,putN_length,storeN_length d a v n]
theorem writeTo_length (d:List Nat) (a:Nat) (b:List Nat):∀n,(writeTo d a b n).length=d.length
 | 0=>rfl
 | n+1=>by rw[writeTo,putN_length,writeTo_length d a b n]
theorem writeN_length (d:List Nat) (a:Nat) (b:List Nat):(writeN d a b).length=d.length:=writeTo_length d a b _
theorem applyN_length (ws:List (Nat×List Nat)):∀d:List Nat,(applyN d ws).length=d.length:=by
 induction ws with
 | nil=>intro d;rfl
 | cons w ws ih=>intro d;rw[applyN,List.foldl_cons];exact(ih _).trans (writeN_length _ _ _)
theorem drops_length (s:St) (i:Nat):(s.drops i).length=s.ops.length - i:=by
 rw[St.drops,List.length_take];omega
def tgk (o:Nat):Nat×Nat×Nat:=(takesOf o,givesOf o,kindOf o)
def tgkT (o:Nat):Nat×Nat×Nat:=
 if o=1 then(0,0,1)else if o=2 then(0,0,8)else if o=3 then(0,0,6)else if o=4 then(1,0,7)else if o=5 then(1,1,5)else if o=6 then(0,0,3)else if o=7 then(1,0,4)
 else if o≤9 then(0,1,1)else if o=10 then(1,0,1)else if o=11 then(1,2,1)else if o=12 then(1,0,1)else if o≤28 then(2,0,2)else if o≤31 then(1,1,1)else if o≤35 then(2,0,1)
 else if isUnOp o then(1,1,1)else(2,1,1)
theorem tgk_eq {o:Nat} (h:isOp o=true):tgk o=tgkT o:=by
 have h1:1≤o∧o≤59:=by simpa[isOp]using h
 have:∀o<60,1≤o→tgk o=tgkT o:=by decide+kernel
 exact this o (by omega) h1.1
theorem fits_iff {m:Mo} {s:St} (h1:s.life=1):m.fits s=true↔s.data.length=2 ^ m.k∧s.sp%4=0∧2 ^ m.k - m.im.stack≤s.sp∧s.sp≤m.top∧s.value=0∧s.fault=0∧m.room s.ops.length s.pc=true:=by
 unfold Mo.fits;rw[h1,if_neg (by decide),if_neg (by decide),if_pos rfl];simp only[Bool.and_eq_true,decide_eq_true_eq]
 constructor
 ·rintro⟨a,b,c,d,e,f,g⟩;exact⟨a,b,c,d,e (by decide),f (by decide),g⟩
 ·rintro⟨a,b,c,d,e,f,g⟩;exact⟨a,b,c,d,fun _=>e,fun _=>f,g⟩
theorem fits_flt {m:Mo} {s:St} (h1:s.life=1) (h:m.fits s=true) {f:Nat} (f1:1≤f) (f8:f≤8):m.fits (s.flt f)=true:=by
 obtain⟨a,b,c,d,e,g,r⟩:=(fits_iff h1).1 h;unfold Mo.fits St.flt;simp only[Bool.and_eq_true,decide_eq_true_eq];refine⟨a,b,c,d,fun _=>e,fun h=>absurd rfl h,?_⟩;rw[if_neg (by decide),if_pos trivial];simp only[Bool.and_eq_true,decide_eq_true_eq];exact⟨f1,f8,r⟩
theorem next_plain {code:List (Nat×Nat)} {js:List Nat} {i:Nat} (h:kindOf (opAt code i)=1∨kindOf (opAt code i)=6∨kindOf (opAt code i)=5):i+1∈nextN code js i:=by
 unfold nextN;rw[if_pos h];exact List.mem_singleton.2 rfl
theorem next_branch {code:List (Nat×Nat)} {js:List Nat} {i:Nat} (h:kindOf (opAt code i)=2):i+1∈nextN code js i∧argAt code i∈nextN code js i:=by
 unfold nextN;rw[if_neg (by omega),if_pos h]
 split
 ·rename_i e;rw[←e];exact⟨List.mem_singleton.2 rfl,List.mem_singleton.2 rfl⟩
 ·simp only[List.mem_cons,List.not_mem_nil,or_false];omega
theorem next_goto {code:List (Nat×Nat)} {js:List Nat} {i:Nat} (h:kindOf (opAt code i)=3):argAt code i∈nextN code js i:=by
 unfold nextN;rw[if_neg (by omega),if_neg (by omega),if_pos h];exact List.mem_singleton.2 rfl
section
variable {m:Mo} (h:m.Ok)
include h
theorem Mo.Ok.at_ {s:St} (h1:s.life=1) (hf:m.fits s=true):s.pc<m.im.code.length∧isOp (opAt m.im.code s.pc)=true∧(takesOf (opAt m.im.code s.pc):Int)≤s.ops.length∧s.ops.length≤64:=by
 obtain⟨_,_,_,_,_,_,r⟩:=(fits_iff h1).1 hf;obtain⟨r1,r2,r3⟩:=room_iff.1 r;obtain⟨s1,s2,s3,s4,s5⟩:=h.step r1;exact⟨h.lt r1,h.f.op _ (h.lt r1),by omega,by omega⟩
theorem Mo.Ok.sizes:2 ^ 8≤2 ^ m.k∧2 ^ m.k≤65536∧m.im.stack≤2 ^ m.k∧64≤m.im.stack∧m.im.stack%4=0∧2 ^ m.k%4=0:=by
 have h1:(2:Nat) ^ 8≤2 ^ m.k:=Nat.pow_le_pow_right (by decide) h.k8;have h2:(2:Nat) ^ m.k≤2 ^ 16:=Nat.pow_le_pow_right (by decide) h.k16;have h3:=h.s;have h4:=h.r;simp only[stackN,Bool.and_eq_true,decide_eq_true_eq]at h3;unfold roomN at h4
 have h5:(2:Nat) ^ m.k=4*2 ^ (m.k - 2):=by
  have e:m.k=(m.k - 2)+2:=by have:=h.k8;omega
  have:=Nat.pow_add 2 (m.k - 2) 2;rw[←e]at this;omega
 exact⟨h1,h2,by omega,h3.2.1,h3.1,by omega⟩
theorem Mo.Ok.begin_ {a:Nat} (hb:m.begins a=true):m.depth a=0∧a<m.im.code.length:=by
 unfold Mo.begins beginsN at hb;simp only[Bool.and_eq_true,decide_eq_true_eq,beq_iff_eq]at hb;have ha:a<m.im.code.length:=by have:=h.ol;omega
 have hr:=h.f.tl.lt a ha;have hb2:=h.d.beg (m.ofs.getD a 0) (by rw[h.d.ml];exact hr);have hb3:((psTo m.im.code m.im.code.length).getD (m.ofs.getD a 0) (0,0,0)).1=a:=hb.2;rw[hb3]at hb2;exact⟨by rw[h.depth_eq ha];exact hb2,ha⟩
theorem Mo.Ok.back_ {r:Nat} (hb:m.back r=true):0≤m.depth r∧r<m.im.code.length:=by
 simp only[Mo.back,Bool.and_eq_true,decide_eq_true_eq]at hb;obtain⟨b1,b2,b3⟩:=hb;have hop:=h.f.op _ (h.lt b2);have ht:=tgk_eq hop;have e:opAt m.im.code (r - 1)=(m.im.code.getD (r - 1) (0,0)).1:=rfl;rw[←e,b3]at ht;simp only[tgk,tgkT]at ht;have hk:kindOf (opAt m.im.code (r - 1))=5:=by rw[b3];simpa using congrArg (fun x=>x.2.2) ht
 obtain⟨s1,s2,s3,s4,s5⟩:=h.step b2;have:=s5 (r - 1+1) (next_plain (.inr (.inr hk)));rw[show r - 1+1=r from by omega]at this;exact⟨by omega,this.1⟩
theorem Mo.Ok.leave_arg {i:Nat} (hi:i<m.im.code.length) (ho:kindOf (opAt m.im.code i)=7):argAt m.im.code i%4=0∧argAt m.im.code i≤4096:=by
 have hf:=h.f.hall i hi;have hr:=h.f.tl.lt i hi;have hfr:=h.f.tl.fr _ hr;have hlo:=h.f.tl.lo i hi;have hb:=(h.f.tl.bd _ hr).1;have hmid:=h.f.tl.mid _ hr _ (Nat.le_refl _) hb;have hen:=h.f.tl.en ((psTo m.im.code m.im.code.length).getD ((ofTo m.im.code m.im.code.length).getD i 0) (0,0,0)).1 (by omega);rw[hmid]at hen;have h3:=hen.2 rfl;have hfb:=h.f.hall ((psTo m.im.code m.im.code.length).getD ((ofTo m.im.code m.im.code.length).getD i 0) (0,0,0)).1 (by omega);generalize hB:((psTo m.im.code m.im.code.length).getD ((ofTo m.im.code m.im.code.length).getD i 0) (0,0,0)).1=B at*;have hk6:kindOf (m.im.code.getD B (0,0)).1=6:=by rw[h3];decide+kernel
 unfold faultAt faultN faultK at hf hfb;have ho':kindOf (m.im.code.getD i (0,0)).1=7:=ho;rw[if_neg (by omega),if_pos ho']at hf
 have harg:argAt m.im.code i=(m.im.code.getD B (0,0)).2:=by
  rw[←hfr];by_cases e:(m.im.code.getD i (0,0)).2=((psTo m.im.code m.im.code.length).getD ((ofTo m.im.code m.im.code.length).getD i 0) (0,0,0)).2.2
  ·exact e
  ·rw[if_pos e]at hf;cases hf
 rw[harg];by_cases e:(m.im.code.getD B (0,0)).2%4≠0∨(m.im.code.getD B (0,0)).2=0∨4096<(m.im.code.getD B (0,0)).2
 ·rw[if_pos ⟨hk6,e⟩]at hfb;cases hfb
 ·omega
theorem Mo.Ok.enter_arg {i:Nat} (hi:i<m.im.code.length) (ho:kindOf (opAt m.im.code i)=6):argAt m.im.code i%4=0∧argAt m.im.code i≤4096:=by
 have hf:=h.f.hall i hi;unfold faultAt faultN faultK at hf;have ho':kindOf (m.im.code.getD i (0,0)).1=6:=ho;by_cases e:(m.im.code.getD i (0,0)).2%4≠0∨(m.im.code.getD i (0,0)).2=0∨4096<(m.im.code.getD i (0,0)).2
 ·rw[if_pos ⟨ho',e⟩]at hf;cases hf
 ·unfold argAt;omega
end
theorem fits_done {m:Mo} {s:St} (h1:s.life=2):m.fits s=true↔s.data.length=2 ^ m.k∧s.sp%4=0∧2 ^ m.k - m.im.stack≤s.sp∧s.sp≤m.top∧s.fault=0∧0≤m.depth s.pc∧opAt m.im.code s.pc=4∧(s.ops.length:Int)+m.need s.pc≤64:=by
 unfold Mo.fits;rw[h1,if_neg (by decide),if_neg (by decide),if_neg (by decide),if_pos rfl];simp only[Bool.and_eq_true,decide_eq_true_eq]
 constructor
 ·rintro⟨a,b,c,d,e,f,g⟩;exact⟨a,b,c,d,f (by decide),g⟩
 ·rintro⟨a,b,c,d,f,g⟩;exact⟨a,b,c,d,fun h=>absurd rfl h,fun _=>f,g⟩
section
variable {m:Mo} (h:m.Ok)
include h
theorem Mo.Ok.leave {s:St} (h1:s.life=1) (hf:m.fits s=true) (ho:opAt m.im.code s.pc=4):m.fits (leaveM m (argAt m.im.code s.pc) s).1=true:=by
 obtain⟨a1,a2,a3,a4⟩:=h.at_ h1 hf;obtain⟨p1,p2,p3,p4,p5,p6,p7⟩:=(fits_iff h1).1 hf;obtain⟨z1,z2,z3,z4,z5,z6⟩:=h.sizes;obtain⟨r1,r2,r3⟩:=room_iff.1 p7;have hk7:kindOf (opAt m.im.code s.pc)=7:=by rw[ho];decide+kernel
 have ht1:takesOf (opAt m.im.code s.pc)=1:=by rw[ho];decide+kernel
 obtain⟨l1,l2⟩:=h.leave_arg a1 hk7;have hs7:=(h.step r1).2.1 hk7;have htop:m.top=2 ^ m.k - 64:=rfl;generalize argAt m.im.code s.pc=a at*;have hw:(s.sp+a)%4294967296=s.sp+a:=Nat.mod_eq_of_lt (by omega);unfold leaveM;rw[hw];generalize loadN s.data (s.sp+a) 4=r;by_cases c1:m.top<s.sp+a
 ·rw[if_pos c1];exact fits_flt h1 hf (by decide) (by decide)
 rw[if_neg c1];by_cases c2:r=4294967295
 ·rw[if_pos c2]
  refine(fits_done (s:={s with life:=2,value:=topW s 0,sp:=s.sp+a,ops:=s.drops 1}) rfl).2 ⟨p1,?_,?_,?_,p6,r1,ho,?_⟩
  ·show(s.sp+a)%4=0;omega
  ·show _≤s.sp+a;omega
  ·show s.sp+a≤_;omega
  ·show((s.drops 1).length:Int)+m.need s.pc≤64
   rw[drops_length];omega
 rw[if_neg c2];by_cases c3:m.back r=false∨(s.ops.length:Int)<m.depth r
 ·rw[if_pos c3];exact fits_flt h1 hf (by decide) (by decide)
 rw[if_neg c3];by_cases c4:64<(s.ops.length:Int) - m.depth r+m.need r
 ·rw[if_pos c4];exact fits_flt h1 hf (by decide) (by decide)
 rw[if_neg c4]
 have hb:m.back r=true:=by
  cases hb:m.back r
  ·exact absurd (.inl hb) c3
  ·rfl
 obtain⟨b1,b2⟩:=h.back_ hb;refine(fits_iff (s:={s with sp:=s.sp+a,pc:=r}) h1).2 ⟨p1,?_,?_,?_,p5,p6,?_⟩
 ·show(s.sp+a)%4=0;omega
 ·show _≤s.sp+a;omega
 ·show s.sp+a≤_;omega
 ·exact room_iff.2 ⟨b1,by simp only;omega,by simp only;omega⟩
end
section
variable {m:Mo} (h:m.Ok)
include h
theorem Mo.Ok.act {s:St} (h1:s.life=1) (hf:m.fits s=true):m.fits (actM m (opAt m.im.code s.pc) (argAt m.im.code s.pc) s).1=true:=by
 obtain⟨a1,a2,a3,a4⟩:=h.at_ h1 hf;obtain⟨p1,p2,p3,p4,p5,p6,p7⟩:=(fits_iff h1).1 hf;obtain⟨z1,z2,z3,z4,z5,z6⟩:=h.sizes;obtain⟨r1,r2,r3⟩:=room_iff.1 p7;have ht:=tgk_eq a2;have hr:=fun (t n':Nat)=>h.room_next (t:=t) (n':=n') p7;have hla:=h.leave_arg a1;have hea:=h.enter_arg a1;have hs7:=h.step r1;have hnp:=next_plain (code:=m.im.code) (js:=m.im.js) (i:=s.pc);have hnb:=next_branch (code:=m.im.code) (js:=m.im.js) (i:=s.pc);have hng:=next_goto (code:=m.im.code) (js:=m.im.js) (i:=s.pc);have hop:1≤opAt m.im.code s.pc∧opAt m.im.code s.pc≤59:=by simpa[isOp]using a2
 have htop:m.top=2 ^ m.k - 64:=rfl;have hlv:=h.leave h1 hf;generalize argAt m.im.code s.pc=a at*;generalize ho:opAt m.im.code s.pc=o at*
 -- a state that runs on
 have go:∀s':St,s'.life=1→s'.data.length=s.data.length→s'.sp%4=0→2 ^ m.k - m.im.stack≤s'.sp→s'.sp≤m.top→s'.value=s.value→s'.fault=s.fault→m.room s'.ops.length s'.pc=true→m.fits s'=true:=
  fun s' e1 e2 e3 e4 e5 e6 e7 e8=>(fits_iff e1).2 ⟨e2.trans p1,e3,e4,e5,e6.trans p5,e7.trans p6,e8⟩
 have Ho:=Lib.hid ho;clear ho;unfold tgk at ht;rw[actM];generalize biR o (topW s 1) (topW s 0)=bi;generalize unW o (topW s 0)=un;generalize hoB o (topW s 1) (topW s 0)=hol;unfold tgkT at ht;by_cases c1:o=1
 ·have e:=c1;rw[if_pos c1];rw[if_pos e]at ht;simp only[Prod.mk.injEq]at ht
  exact go _ h1 rfl p2 p3 p4 rfl rfl (hr _ _ (hnp (by omega)) (by simp only;omega))
 rw[if_neg c1];have e1:=c1;rw[if_neg e1]at ht;by_cases c2:o=2
 ·rw[if_pos c2];exact fits_flt h1 hf (by decide) (by decide)
 rw[if_neg c2];have e2:=c2;rw[if_neg e2]at ht;by_cases c3:o=3
 ·have e:=c3;rw[if_pos c3];rw[if_pos e]at ht;simp only[Prod.mk.injEq]at ht
  have:=hea (by omega)
  split
  ·exact fits_flt h1 hf (by decide) (by decide)
  ·exact go _ h1 rfl (by simp only;omega) (by simp only;omega) (by simp only;omega) rfl rfl (hr _ _ (hnp (by omega)) (by simp only;omega))
 rw[if_neg c3];have e3:=c3;rw[if_neg e3]at ht;by_cases c4:o=4
 ·rw[if_pos c4];exact hlv c4
 rw[if_neg c4];have e4:=c4;rw[if_neg e4]at ht;by_cases c5:o=5
 ·have e:=c5;rw[if_pos c5];rw[if_pos e]at ht;simp only[Prod.mk.injEq]at ht
  unfold callM;generalize topW s 0=r
  split
  ·exact fits_flt h1 hf (by decide) (by decide)
  split
  ·exact fits_flt h1 hf (by decide) (by decide)
  ·rename_i c1 c2
   obtain⟨b1,b2⟩:=h.begin_ (a:=r) (by cases hb:m.begins r;exact absurd hb c1;rfl);exact go _ h1 (storeN_length ..) p2 p3 p4 rfl rfl (room_iff.2 ⟨by simp only;omega,by simp only;omega,by simp only[drops_length];omega⟩)
 rw[if_neg c5];have e5:=c5;rw[if_neg e5]at ht;by_cases c6:o=6
 ·have e:=c6;rw[if_pos c6];rw[if_pos e]at ht;simp only[Prod.mk.injEq]at ht
  exact go _ h1 rfl p2 p3 p4 rfl rfl (hr _ _ (hng (by omega)) (by simp only;omega))
 rw[if_neg c6];have e6:=c6;rw[if_neg e6]at ht;by_cases c7:o=7
 ·have e:=c7;rw[if_pos c7];rw[if_pos e]at ht;simp only[Prod.mk.injEq]at ht
  split
  ·rename_i c
   exact go _ h1 rfl p2 p3 p4 rfl rfl (hr _ _ (of_decide_eq_true c) (by simp only[drops_length];omega))
  ·exact fits_flt h1 hf (by decide) (by decide)
 rw[if_neg c7];have e7:=c7;rw[if_neg e7]at ht;by_cases c8:o=8
 ·have e:=c8;rw[if_pos c8];rw[if_pos (by omega)]at ht;simp only[Prod.mk.injEq]at ht
  exact go _ h1 rfl p2 p3 p4 rfl rfl (hr _ _ (hnp (by omega)) (by simp;omega))
 rw[if_neg c8];have e8:=c8;by_cases c9:o=9
 ·have e:=c9;rw[if_pos c9];rw[if_pos (by omega)]at ht;simp only[Prod.mk.injEq]at ht
  exact go _ h1 rfl p2 p3 p4 rfl rfl (hr _ _ (hnp (by omega)) (by simp;omega))
 rw[if_neg c9];have e9:=c9;rw[if_neg (by omega)]at ht;by_cases c10:o=10
 ·have e:=c10;rw[if_pos c10];rw[if_pos e]at ht;simp only[Prod.mk.injEq]at ht
  exact go _ h1 rfl p2 p3 p4 rfl rfl (hr _ _ (hnp (by omega)) (by simp only[drops_length];omega))
 rw[if_neg c10];have e10:=c10;rw[if_neg e10]at ht;by_cases c11:o=11
 ·have e:=c11;rw[if_pos c11];rw[if_pos e]at ht;simp only[Prod.mk.injEq]at ht
  exact go _ h1 rfl p2 p3 p4 rfl rfl (hr _ _ (hnp (by omega)) (by simp;omega))
 rw[if_neg c11];have e11:=c11;rw[if_neg e11]at ht;by_cases c12:o=12
 ·have e:=c12;rw[if_pos c12];rw[if_pos e]at ht;simp only[Prod.mk.injEq]at ht
  exact go _ h1 (storeN_length ..) p2 p3 p4 rfl rfl (hr _ _ (hnp (by omega)) (by simp only[drops_length];omega))
 rw[if_neg c12];have e12:=c12;rw[if_neg e12]at ht;by_cases c28:o≤28
 ·have e:=c28;rw[if_pos c28];rw[if_pos e]at ht;simp only[Prod.mk.injEq]at ht
  obtain⟨n1,n2⟩:=hnb (by omega);refine go _ h1 rfl p2 p3 p4 rfl rfl ?_;simp only[drops_length]
  split
  ·exact hr _ _ n2 (by omega)
  ·exact hr _ _ n1 (by omega)
 rw[if_neg c28];have e28:=c28;rw[if_neg e28]at ht;by_cases c31:o≤31
 ·have e:=c31;rw[if_pos c31];rw[if_pos e]at ht;simp only[Prod.mk.injEq]at ht
  exact go _ h1 rfl p2 p3 p4 rfl rfl (hr _ _ (hnp (by omega)) (by simp[drops_length];omega))
 rw[if_neg c31];have e31:=c31;rw[if_neg e31]at ht;by_cases c34:o≤34
 ·have e:=c34;rw[if_pos c34];rw[if_pos (by omega)]at ht;simp only[Prod.mk.injEq]at ht
  exact go _ h1 (storeN_length ..) p2 p3 p4 rfl rfl (hr _ _ (hnp (by omega)) (by simp only[drops_length];omega))
 rw[if_neg c34];have e34:=c34;by_cases c35:o=35
 ·have e:=c35;rw[if_pos c35];rw[if_pos (by omega)]at ht;simp only[Prod.mk.injEq]at ht
  exact go _ h1 (writeN_length ..) p2 p3 p4 rfl rfl (hr _ _ (hnp (by omega)) (by simp only[drops_length];omega))
 rw[if_neg c35];have e35:=c35;rw[if_neg (by omega)]at ht;by_cases cu:isUnOp o=true
 ·have e:=cu;rw[if_pos cu];rw[if_pos e]at ht;simp only[Prod.mk.injEq]at ht
  exact go _ h1 rfl p2 p3 p4 rfl rfl (hr _ _ (hnp (by omega)) (by simp[drops_length];omega))
 rw[if_neg cu];have eu:=cu;rw[if_neg eu]at ht;simp only[Prod.mk.injEq]at ht;by_cases cb:bi.2≠0
 ·rw[if_pos cb];exact fits_flt h1 hf (by decide) (by decide)
 ·rw[if_neg cb];exact go _ h1 rfl p2 p3 p4 rfl rfl (hr _ _ (hnp (by omega)) (by simp[drops_length];omega))
end
theorem sysM_some {m:Mo} {s:St} {x:Nat} (h:sysM m s=some x):opAt m.im.code s.pc=5∧2147483648≤topW s 0∧x=4294967295 - topW s 0:=by
 unfold sysM at h
 split at h
 ·rename_i c;injection h with h;exact⟨c.1,c.2,h.symm⟩
 ·cases h
section
variable {m:Mo} (h:m.Ok)
include h
theorem Mo.Ok.sys {s:St} (h1:s.life=1) (hf:m.fits s=true) {x:Nat} (hx:sysM m s=some x) (d:List Nat) (hd:d.length=s.data.length) (v:Nat) :
 m.fits {s with data:=d,ops:=s.drops 1++[v],pc:=s.pc+1}=true:=by
 obtain⟨x1,x2,x3⟩:=sysM_some hx;obtain⟨a1,a2,a3,a4⟩:=h.at_ h1 hf;obtain⟨p1,p2,p3,p4,p5,p6,p7⟩:=(fits_iff h1).1 hf;have ht:=tgk_eq a2;rw[x1]at ht a3;have e1:takesOf 5=1:=by decide+kernel
 have e2:givesOf 5=1:=by decide+kernel
 have e3:kindOf 5=5:=by decide+kernel
 have hl:(s.drops 1++[v]).length=s.ops.length:=by
  rw[List.length_append,drops_length,List.length_singleton];omega
 refine(fits_iff (s:={s with data:=d,ops:=s.drops 1++[v],pc:=s.pc+1}) h1).2 ⟨by show d.length=_;rw[hd];exact p1,p2,p3,p4,p5,p6,?_⟩
 show m.room (s.drops 1++[v]).length (s.pc+1)=true
 refine h.room_next p7 (next_plain (.inr (.inr (by rw[x1];exact e3)))) ?_;rw[hl,x1,e1,e2];omega
theorem Mo.Ok.stp {s:St} (h1:s.life=1) (hf:m.fits s=true) (gr:List (Nat×Int)) (reps:List Rep):m.fits (stepM m gr reps s).st=true:=by
 unfold stepM;cases hx:sysM m s with
 | none=>exact h.act h1 hf
 | some x=>
  simp only
  split
  ·exact h.sys h1 hf hx _ (applyN_length _ _) _
  ·exact fits_flt h1 hf (by decide) (by decide)
end
def moOf (m:Img):Mo:=⟨m,(flowN m.code m.js).1,(flowN m.code m.js).2.1,bitsI m⟩
theorem findOk_nil {code:List (Nat×Nat)} {js ats:List Nat} (h:FindOk code js ats):FindOk code js []:=⟨h.he,h.h3,h.hall,h.hg,fun j hj=>absurd hj (Nat.not_lt_zero j)⟩
theorem moOk {m:Img} (h:TakeOk m):(moOf m).Ok:=by
 obtain⟨hc1,hc2,hc3,hc4,hc5,hc6,hc7⟩:=checkI_ok h.k;obtain⟨b1,b2,b3⟩:=bitsI_spec (m:=m) (by omega);exact⟨findOk_nil h.f,flowN_spec (findOk_nil h.f) h.r,hc4,b1,b2,b3⟩
theorem whereof_any {w:World} {B b:Nat} {vp vo vt vm:Value} {ps:List (Nat×Nat×Nat)} {ofs:List Nat} {us:List Value} {ts:List (List Nat)} {ms:List Int} (h:PAt w B b vp vo vt ps ofs us ts)
 (hv:w.ownsRow 0 3 1 vm ms.length (encZ ms)) (hof:∀x,x<ofs.length→ofs.getD x 0<ps.length) (hml:ms.length=ps.length) (x:Nat) (hx:x<4294967296) :
 Calls Tryz.prog 96 #[.agg #[.pointer (some ⟨b,0,none⟩),vm],.int .u32 x] w fun e w'=>
  e=.returned (.tuple #[prcV (if x<ofs.length then ps.getD (ofs.getD x 0) (0,0,0)else(0,0,0)) (if x<ofs.length then ms.getD (ofs.getD x 0) 0 else 0),.bool (decide (x<ofs.length))])∧Below w.heap.size w w':=by
 have hz39:=zero39;have hb39:=run_build39;have Hml:=Lib.hid hml;clear hml;obtain⟨am,nm,rfl,hnc,hcm,hp⟩:=own_sl hv;obtain⟨Wa,hWa⟩:∃Wa,Wa=(w.alloc (.cells #[.pointer (some ⟨b,0,none⟩),.slice am ms.length nm] 113)).alloc (.cells #[.int .u32 0,.int .u32 0,.int .u32 0,.int .i64 0] 126):=⟨_,rfl⟩;have hba:Below w.heap.size w Wa:=by rw[hWa];exact Bel.al (Bel.new _ _) _
 have hs0:Wa.heap.size=w.heap.size+2:=by rw[hWa];simp
 have HO:=Lib.hid (of_any (h.below hba) x hx);unfold ofN at HO;have b0:Wa.cell? ⟨w.heap.size,0,none⟩=some (.pointer (some ⟨b,0,none⟩)):=by rw[hWa];simp[go_sem]
 have b1:Wa.cell? ⟨w.heap.size,1,none⟩=some (.slice am ms.length nm):=by rw[hWa];simp[go_sem]
 have hh0:Wa.heap[w.heap.size+1]?=some (.cells #[.int .u32 0,.int .u32 0,.int .u32 0,.int .i64 0] 126):=by
  rw[hWa];have:=heap_alloc_new (w.alloc (.cells #[.pointer (some ⟨b,0,none⟩),.slice am ms.length nm] 113)) (.cells #[.int .u32 0,.int .u32 0,.int .u32 0,.int .i64 0] 126)
  simpa using this
 have HH0:=Lib.hid hh0;have HBa:=Lib.hid hba;by_cases hlt:x<ofs.length
 ·have HP:=Lib.hid (whereproc_any (h.below hba) (own_below hv hba) (ofs.getD x 0) (hof x hlt) (by rw[Hml.out];exact hof x hlt))
  rw[if_pos hlt]at HO;rw[if_pos hlt,if_pos hlt,decide_eq_true hlt];have hz0:(0:Int)≤((ofs.getD x 0:Nat):Int):=by omega
  have hzd:¬(((ofs.getD x 0:Nat):Int)<0):=by omega
  generalize ofs.getD x 0=k at*;unfold prcV at HP⊢;generalize ps.getD k (0,0,0)=p at*;obtain⟨p0,p1,p2⟩:=p;generalize ms.getD k 0=q at*;clear h hv hp hh0 hba hlt;go_enter Tryz.func96,Tryz.ntmps96;go_wp2_with fail;rw[←hWa];clear hWa;refine HO.out.mono ?_;rintro e w1⟨rfl,rfl⟩;go_wp2_with fail;refine HP.out.mono ?_;rintro e w1⟨rfl,hb1⟩;have HH1:=Lib.hid ((hb1.block (w.heap.size+1) (by omega)).trans HH0.out);have HB1:=Lib.hid (Bel.tr HBa.out hb1);have hsz:=size259 (.int .u32 p0) (.int .u32 p1) (.int .u32 p2) (.int .i64 q);clear hb1 b1 HP HO
  go_wp2_with(((with_reducible refine wpList_store_row (o:=⟨none,.store 126 (.tmp 4) (.tmp 16),_,_,_,none⟩) rfl 126 _ _ rfl (w.heap.size+1) #[.int .u32 p0,.int .u32 p1,.int .u32 p2,.int .i64 q] ?_ ?_ 126 _ HH1.out ?_ ?_ ?_ ?_);rfl;rfl;exact hsz;rfl;(simp[Value.oneCell'])))
  refine bodyPost_ret (v:=.tuple #[.agg #[.int .u32 p0,.int .u32 p1,.int .u32 p2,.int .i64 q],.bool true]) (results_cell_tmp Tryz.results96 _ _ (w.heap.size+1) 126 _ (0,0) _ rfl (setRow_heap _ _ _ _ _ _ HH1.out) Tryz.underlying126 rfl hsz _ rfl) rfl ⟨rfl,?_⟩;exact below_setRow HB1.out _ (by omega) _
 ·rw[if_neg hlt]at HO
  rw[if_neg hlt,if_neg hlt,decide_eq_false hlt];unfold prcV;clear h hv hp hh0 hba hlt;go_enter Tryz.func96,Tryz.ntmps96;go_wp2_with fail;rw[←hWa];clear hWa;refine HO.out.mono ?_;rintro e w1⟨rfl,rfl⟩;have hsz:=size259 (.int .u32 0) (.int .u32 0) (.int .u32 0) (.int .i64 0);clear b1 HO
  go_wp2_with(((with_reducible refine wpList_store_row (o:=⟨none,.store 126 (.tmp 4) (.tmp 13),_,_,_,none⟩) rfl 126 _ _ rfl (w.heap.size+1) #[.int .u32 0,.int .u32 0,.int .u32 0,.int .i64 0] ?_ ?_ 126 _ HH0.out ?_ ?_ ?_ ?_);rfl;rfl;exact hsz;rfl;(simp[Value.oneCell'])))
  refine bodyPost_ret (v:=.tuple #[.agg #[.int .u32 0,.int .u32 0,.int .u32 0,.int .i64 0],.bool false]) (results_cell_tmp Tryz.results96 _ _ (w.heap.size+1) 126 _ (0,0) _ rfl (setRow_heap _ _ _ _ _ _ HH0.out) Tryz.underlying126 rfl hsz _ rfl) rfl ⟨rfl,?_⟩;exact below_setRow HBa.out _ (by omega) _
theorem prc_eq {m:Img} (hk:TakeOk m) (x:Nat):(ofTo m.code m.code.length).length=m.code.length∧(flowN m.code m.js).2.1.length=(psTo m.code m.code.length).length∧∀y,y<(ofTo m.code m.code.length).length→(ofTo m.code m.code.length).getD y 0<(psTo m.code m.code.length).length:=by
 have hf:=findOk_nil hk.f;refine⟨hf.tl.ol,(flowN_spec hf hk.r).ml,fun y hy=>hf.tl.lt y (by rw[←hf.tl.ol];exact hy)⟩
theorem procOf_any (mb:Nat) (m:Img) (B:Nat) (w:World) (hk:TakeOk m) (h:ModAt w B mb m) (x:Nat) (hx:x<4294967296) :
 Calls Tryz.prog 54 #[.pointer (some ⟨mb,0,none⟩),.int .u32 x] w fun e w'=>e=.returned (.tuple #[prcV (prcN m x) (needN m x),.bool (decide (x<m.code.length))])∧Below w.heap.size w w':=by
 have hz39:=zero39;obtain⟨Wa,hWa⟩:∃Wa,Wa=w.alloc (.cells #[.int .u32 0,.int .u32 0,.int .u32 0,.int .i64 0] 126):=⟨_,rfl⟩;have hba:Below w.heap.size w Wa:=by rw[hWa];exact Bel.new _ _
 have hs0:Wa.heap.size=w.heap.size+1:=by rw[hWa];simp
 obtain⟨h0,tb,b,vm,uc,vd,uj,ud,un,hm,ht,⟨c0,c1,c2,c3,c4,c5,c6,c7,c8,c9,c10,c11⟩,hi,⟨B',hB,hf⟩,hd,hv⟩:=h.below hba;have HA:=Lib.hid (all_mod mb tb Wa hm);obtain⟨vp,vo,vt,us,hA⟩:=hf;obtain⟨e1,e2,e3⟩:=prc_eq hk x;have HP:=Lib.hid (whereof_any hA (own_downT hv (Nat.zero_le _)) e3 e2 x hx);rw[e1]at HP;have hh0:Wa.heap[w.heap.size]?=some (.cells #[.int .u32 0,.int .u32 0,.int .u32 0,.int .i64 0] 126):=by rw[hWa];exact heap_alloc_new _ _
 have HH0:=Lib.hid hh0;have HBa:=Lib.hid hba;obtain⟨am,nm,rfl,-⟩:=own_sl hv;obtain⟨p,hp⟩:∃p,p=prcN m x:=⟨_,rfl⟩;obtain⟨q,hq⟩:∃q,q=needN m x:=⟨_,rfl⟩;rw[←hp,←hq];unfold prcN at hp;unfold needN at hq;rw[←hp,←hq]at HP;unfold prcV at HP⊢;obtain⟨p0,p1,p2⟩:=p;simp only at HP;generalize decide (x<m.code.length)=bb at*;clear hi hd hv hA hp hq hh0 hba e1 e2 e3 h;go_enter Tryz.func54,Tryz.ntmps54;go_wp2_with fail;rw[←hWa];clear hWa;refine HA.out.mono ?_;rintro e w1⟨rfl,rfl⟩;go_wp2_with fail;refine HP.out.mono ?_;rintro e w1⟨rfl,hb1⟩;have HH1:=Lib.hid ((hb1.block w.heap.size (by omega)).trans HH0.out);have HB1:=Lib.hid (Bel.tr HBa.out hb1);have hsz:=size259 (.int .u32 p0) (.int .u32 p1) (.int .u32 p2) (.int .i64 q);clear hb1 HP HA c0 c1 c2 c3 c4 c5 c6 c7 c8 c9 c10 c11
 go_wp2_with(((with_reducible refine wpList_store_row (o:=⟨none,.store 126 (.tmp 4) (.tmp 13),_,_,_,none⟩) rfl 126 _ _ rfl w.heap.size #[.int .u32 p0,.int .u32 p1,.int .u32 p2,.int .i64 q] ?_ ?_ 126 _ HH1.out ?_ ?_ ?_ ?_);rfl;rfl;exact hsz;rfl;(simp[Value.oneCell'])))
 refine bodyPost_ret (v:=.tuple #[.agg #[.int .u32 p0,.int .u32 p1,.int .u32 p2,.int .i64 q],.bool bb]) (results_cell_tmp Tryz.results54 _ _ w.heap.size 126 _ (0,0) _ rfl (setRow_heap _ _ _ _ _ _ HH1.out) Tryz.underlying126 rfl hsz _ rfl) rfl ⟨rfl,?_⟩;exact below_setRow HB1.out _ (Nat.le_refl _) _
theorem none_any (mb:Nat) (m:Img) (B:Nat) (w:World) (hk:TakeOk m) (h:ModAt w B mb m) :
 Calls Tryz.prog 50 #[.pointer (some ⟨mb,0,none⟩)] w fun e w'=>e=.returned (.bool false)∧w=w':=by
 have HB:=Lib.hid (bitsOf_any mb m B w h);have hb8:=(moOk hk).k8
 have hne:((bitsI m:Int)==0)=false:=by
  have:8≤bitsI m:=hb8;simp;omega
 clear hb8;generalize bitsI m=k at*;clear h;go_enter Tryz.func50,Tryz.ntmps50;go_wp2_with fail;refine HB.out.mono ?_;rintro e w1⟨rfl,rfl⟩;go_wp2_with fail;go_ret;exact⟨rfl,rfl⟩
theorem pow_cases {k:Nat} (h1:8≤k) (h2:k≤16):k=8∨k=9∨k=10∨k=11∨k=12∨k=13∨k=14∨k=15∨k=16:=by omega
theorem top_any (mb:Nat) (m:Img) (B:Nat) (w:World) (hk:TakeOk m) (h:ModAt w B mb m) :
 Calls Tryz.prog 51 #[.pointer (some ⟨mb,0,none⟩)] w fun e w'=>e=.returned (.int .u32 ((moOf m).top:Nat))∧w=w':=by
 have HB:=Lib.hid (bitsOf_any mb m B w h);have hb8:8≤bitsI m:=(moOk hk).k8;have hb16:bitsI m≤16:=(moOk hk).k16;have htop:(moOf m).top=2 ^ bitsI m - 64:=rfl;rw[htop];generalize bitsI m=k at*;clear h htop;rcases pow_cases hb8 hb16 with rfl|rfl|rfl|rfl|rfl|rfl|rfl|rfl|rfl
 all_goals
  clear hb8 hb16;go_enter Tryz.func51,Tryz.ntmps51;go_wp2_with fail;refine HB.out.mono ?_;rintro e w1⟨rfl,rfl⟩;go_wp2_with fail;go_ret;exact⟨rfl,rfl⟩
def stV (vo vd:Value) (s:St):Value:=.agg #[.int .u8 s.life,.int .u32 s.pc,.int .u32 s.sp,vo,vd,.int .u32 s.value,.int .u8 s.fault]
structure StAt (w:World) (vo vd:Value) (s:St):Prop where
 o:Words w vo s.ops
 d:Bytes w vd s.data
 sm:s.Small
theorem StAt.below {w w':World} {vo vd:Value} {s:St} (h:StAt w vo vd s) (hb:Below w.heap.size w w'):StAt w' vo vd s:=⟨h.o.below hb,h.d.below hb,h.sm⟩
section
variable {H:Type} {enc:TypeId×Value→H} {w:World} {base:Nat}
end
theorem markN_bd {n:Int} (h0:-1≤n) (h1:n≤64):∀(ts:List Nat) (D:List Int) (P:List Nat) (D':List Int) (P':List Nat),Deps D→markN n ts D P=some (D',P')→Deps D'
 | [],D,P,D',P',hD,h=>by
  simp only[markN,Option.some.injEq,Prod.mk.injEq]at h;rw[←h.1];exact hD
 | t::ts,D,P,D',P',hD,h=>by
  unfold markN at h
  split at h
  ·cases h
  ·split at h
   ·exact markN_bd h0 h1 ts _ _ D' P' (hD.set t h0 h1) h
   ·exact markN_bd h0 h1 ts _ _ D' P' hD h
theorem walkN_bd (code:List (Nat×Nat)) (js:List Nat):∀(f:Nat) (D:List Int) (P:List Nat) (m:Int),Deps D→0≤m→m≤64→
 Deps (walkN code js f D P m).1∧0≤(walkN code js f D P m).2.1∧(walkN code js f D P m).2.1≤64
 | 0,D,P,m,hD,h0,h1=>⟨hD,h0,h1⟩
 | f+1,D,P,m,hD,h0,h1=>by
  unfold walkN;by_cases c1:P=[]
  ·rw[if_pos c1];exact⟨hD,h0,h1⟩
  rw[if_neg c1];by_cases c2:depFault (opAt code (minN P)) (D.getD (minN P) (-1))≠0
  ·rw[if_pos c2];exact⟨hD,Int.le_refl _,show(0:Int)≤64 by decide⟩
  rw[if_neg c2];obtain⟨f1,f2,-⟩:=depFault_zero (Classical.not_not.1 c2);have hd:=hD (minN P);generalize D.getD (minN P) (-1)=d at*;have g0:-1≤d - takesOf (opAt code (minN P))+givesOf (opAt code (minN P)):=by omega
  generalize hn:d - (takesOf (opAt code (minN P)):Int)+(givesOf (opAt code (minN P)):Int)=n at*;cases hm:markN n (nextN code js (minN P)) D (P.erase (minN P))with
  | none=>exact⟨hD,Int.le_refl _,show(0:Int)≤64 by decide⟩
  | some r=>
   obtain⟨D',P'⟩:=r;exact walkN_bd code js f D' P' _ (markN_bd g0 f2 _ _ _ _ _ hD hm) (by omega) (by omega)
theorem deps_nil:Deps []:=fun t=>by simp
theorem depthsN_bd (code:List (Nat×Nat)) (js:List Nat):∀(qs:List Nat) (D ms:List Int),Deps D→(∀x∈ms,0≤x∧x≤64)→
 Deps (depthsN code js qs D ms).1∧∀x∈(depthsN code js qs D ms).2.1,0≤x∧x≤64
 | [],D,ms,hD,hm=>⟨hD,hm⟩
 | a::qs,D,ms,hD,hm=>by
  unfold depthsN
  split
  ·exact⟨deps_nil,fun x hx=>by cases hx⟩
  ·obtain⟨w1,w2,w3⟩:=walkN_bd code js (code.length+1) (D.set a 0) [a] 0 (hD.set a (by decide) (by decide)) (Int.le_refl _) (by decide)
   refine depthsN_bd code js qs _ _ w1 fun x hx=>?_;rcases List.mem_append.1 hx with hx|hx
   ·exact hm x hx
   ·rw[List.mem_singleton.1 hx];exact⟨w2,w3⟩
theorem flowN_bd (code:List (Nat×Nat)) (js:List Nat):(∀i,-1≤(flowN code js).1.getD i (-1)∧(flowN code js).1.getD i (-1)≤64)∧∀i,0≤(flowN code js).2.1.getD i 0∧(flowN code js).2.1.getD i 0≤64:=by
 obtain⟨h1,h2⟩:=depthsN_bd code js ((psTo code code.length).map (·.1)) (List.replicate code.length (-1)) [] (deps_none _) (fun x hx=>by cases hx);refine⟨h1,fun i=>?_⟩
 have h3:∀l:List Int,(∀x∈l,0≤x∧x≤64)→0≤l.getD i 0∧l.getD i 0≤64:=fun l h=>by
  rw[List.getD_eq_getElem?_getD];cases hk:l[i]? with
  | none=>exact⟨Int.le_refl _,show(0:Int)≤64 by decide⟩
  | some v=>exact h v (List.mem_of_getElem? hk)
 exact h3 _ h2
def Mo.fresh (m:Mo):List Nat:=m.im.data++List.replicate (2 ^ m.k - m.im.data.length) 0
def Mo.fst (m:Mo):St:=⟨0,0,m.top,[],m.fresh,0,0⟩
theorem fits_len {m:Mo} {s:St} (h:m.fits s=true):s.data.length=2 ^ m.k:=by
 unfold Mo.fits at h;rw[Bool.and_eq_true]at h;exact of_decide_eq_true h.1
theorem fits_ops {m:Mo} (hm:m.Ok) {s:St} (h:m.fits s=true):s.ops.length≤64:=by
 have room:∀n a,m.room n a=true→n≤64:=by
  intro n a hr;obtain⟨r0,r1,r2⟩:=room_iff.1 hr;have:=(Mo.Ok.step hm r0).2.2.1;omega
 unfold Mo.fits at h;simp only[Bool.and_eq_true]at h;obtain⟨_,_,_,_,_,_,h⟩:=h;by_cases c0:s.life=0
 ·rw[if_pos c0]at h
  simp only[Bool.and_eq_true,decide_eq_true_eq]at h;omega
 ·rw[if_neg c0]at h
  by_cases c3:s.life=3
  ·rw[if_pos c3]at h
   simp only[Bool.and_eq_true,decide_eq_true_eq]at h;exact room _ _ h.2.2
  ·rw[if_neg c3]at h
   by_cases c1:s.life=1
   ·rw[if_pos c1]at h
    exact room _ _ h
   ·rw[if_neg c1]at h
    by_cases c2:s.life=2
    ·rw[if_pos c2]at h
     simp only[Bool.and_eq_true,decide_eq_true_eq]at h;obtain⟨h1,h2,h3⟩:=h;have hs:=Mo.Ok.step hm h1
     have:(0:Int)≤m.need s.pc:=by
      have:=hs.2.2.1;omega
     omega
    ·rw[if_neg c2]at h
     cases h
theorem pow_le16 {m:Mo} (hm:m.Ok):256≤2 ^ m.k∧2 ^ m.k≤65536:=by
 have h:=Mo.Ok.sizes hm;exact⟨h.1,h.2.1⟩
theorem fresh_length {m:Mo} (hm:m.Ok):m.fresh.length=2 ^ m.k:=by
 have h:=hm.r;unfold roomN at h;unfold Mo.fresh;rw[List.length_append,List.length_replicate];omega
theorem fits_fst {m:Mo} (hm:m.Ok):m.fits m.fst=true:=by
 have h1:=fresh_length hm;obtain⟨s1,s2,s3,s4,s5,s6⟩:=Mo.Ok.sizes hm;have ht:m.top=2 ^ m.k - 64:=rfl;unfold Mo.fits Mo.fst;simp only[h1,ht];generalize 2 ^ m.k=K at*;simp;omega
theorem fst_small {m:Mo} (hm:m.Ok) (hd:∀x∈m.im.data,x<256):m.fst.Small:=by
 have h2:=(pow_le16 hm).2;refine⟨by show(0:Nat)<256;decide,by show(0:Nat)<4294967296;decide,by show m.top<4294967296;unfold Mo.top;omega,(fun x hx=>by cases hx),?_,by show(0:Nat)<4294967296;decide,by show(0:Nat)<256;decide⟩;intro x hx;rcases List.mem_append.1 (show x∈m.im.data++List.replicate (2 ^ m.k - m.im.data.length) 0 from hx)with hx|hx
 ·exact hd x hx
 ·rw[(List.mem_replicate.1 hx).2];decide
structure MAt (w:World) (mb:Nat) (m:Img):Prop where
 k:TakeOk m
 a:∃B,ModAt w B mb m
 x:∃w0 xc xj xd xn,ImgAt w0 xc xj xd xn m
theorem MAt.below {w w':World} {mb:Nat} {m:Img} (h:MAt w mb m) (hb:Below w.heap.size w w'):MAt w' mb m:=by
 obtain⟨B,hB⟩:=h.a;exact⟨h.k,⟨B,hB.below hb⟩,h.x⟩
theorem MAt.bits {w:World} {mb:Nat} {m:Img} (h:MAt w mb m) :
 Calls Tryz.prog 42 #[.pointer (some ⟨mb,0,none⟩)] w fun e w'=>e=.returned (.int .i64 (bitsI m))∧w=w':=by
 obtain⟨B,hB⟩:=h.a;exact bitsOf_any mb m B w hB
theorem MAt.image {w:World} {mb:Nat} {m:Img} (h:MAt w mb m) :
 Calls Tryz.prog 40 #[.pointer (some ⟨mb,0,none⟩)] w fun e w'=>∃uc uj ud un,e=.returned (.agg #[uc,uj,ud,.int .u32 m.zero,.int .u32 m.stack,un])∧ImgOwn w' w.heap.size uc uj ud un m∧Below w.heap.size w w':=by
 obtain⟨B,hB⟩:=h.a;obtain⟨w0,xc,xj,xd,xn,hx⟩:=h.x;exact image_any mb m B w (small_of_check h.k.k) hB w0 xc xj xd xn hx
theorem MAt.empty {w:World} {mb:Nat} {m:Img} (h:MAt w mb m) :
 Calls Tryz.prog 50 #[.pointer (some ⟨mb,0,none⟩)] w fun e w'=>e=.returned (.bool false)∧w=w':=by
 obtain⟨B,hB⟩:=h.a;exact none_any mb m B w h.k hB
theorem MAt.top {w:World} {mb:Nat} {m:Img} (h:MAt w mb m) :
 Calls Tryz.prog 51 #[.pointer (some ⟨mb,0,none⟩)] w fun e w'=>e=.returned (.int .u32 ((moOf m).top:Nat))∧w=w':=by
 obtain⟨B,hB⟩:=h.a;exact top_any mb m B w h.k hB
theorem MAt.depth {w:World} {mb:Nat} {m:Img} (h:MAt w mb m) (i:Nat) (hi:i<4294967296) :
 Calls Tryz.prog 55 #[.pointer (some ⟨mb,0,none⟩),.int .u32 i] w fun e w'=>e=.returned (.int .i64 (depthAt (flowN m.code m.js).1 i))∧Below w.heap.size w w':=by
 obtain⟨B,hB⟩:=h.a;exact depthOf_any mb m B w hB i hi
theorem MAt.proc {w:World} {mb:Nat} {m:Img} (h:MAt w mb m) (i:Nat) (hi:i<4294967296) :
 Calls Tryz.prog 54 #[.pointer (some ⟨mb,0,none⟩),.int .u32 i] w fun e w'=>e=.returned (.tuple #[prcV (prcN m i) (needN m i),.bool (decide (i<m.code.length))])∧Below w.heap.size w w':=by
 obtain⟨B,hB⟩:=h.a;exact procOf_any mb m B w h.k hB i hi
theorem MAt.instr {w:World} {mb:Nat} {m:Img} (h:MAt w mb m) (i:Nat) (hi:i<4294967296) :
 Calls Tryz.prog 53 #[.pointer (some ⟨mb,0,none⟩),.int .u32 i] w fun e w'=>e=.returned (.tuple #[instrV m.code i,.bool (decide (i<m.code.length))])∧Below w.heap.size w w':=by
 obtain⟨B,hB⟩:=h.a;exact at_any mb m B w hB i hi (checkI_ok h.k.k).1
theorem MAt.digest {w:World} {mb:Nat} {m:Img} (h:MAt w mb m) :
 Calls Tryz.prog 20 #[.pointer (some ⟨mb,0,none⟩)] w fun e w'=>e=.returned (.int .u64 (digN m))∧w=w':=by
 obtain⟨B,hB⟩:=h.a;exact digest_any mb m B w hB
theorem mo_depth (m:Img) (i:Nat):(moOf m).depth i=depthAt (flowN m.code m.js).1 i:=by
 unfold Mo.depth depthAt
 split
 ·rfl
 ·rename_i h
  rw[List.getD_eq_getElem?_getD,List.getElem?_eq_none (show(flowN m.code m.js).1.length≤i from Nat.le_of_not_lt h)];rfl
theorem mo_need {m:Img} (hk:TakeOk m) (i:Nat):(moOf m).need i=needN m i:=by
 obtain⟨e1,-,-⟩:=prc_eq hk i;unfold Mo.need needN
 show(if i<(ofTo m.code m.code.length).length then _ else _)=_
 rw[e1];rfl
theorem depth_bd (m:Img) (i:Nat):-1≤depthAt (flowN m.code m.js).1 i∧depthAt (flowN m.code m.js).1 i≤64:=(flowN_bd m.code m.js).1 i
theorem need_bd (m:Img) (i:Nat):0≤needN m i∧needN m i≤64:=by
 unfold needN
 split
 ·exact(flowN_bd m.code m.js).2 _
 ·exact⟨Int.le_refl _,by decide⟩
theorem room_any' {w:World} {mb:Nat} {m:Img} (h:MAt w mb m) (n i:Nat) (hn:n≤140737488355328) (hi:i<4294967296) :
 Calls Tryz.prog 52 #[.pointer (some ⟨mb,0,none⟩),.int .i64 n,.int .u32 i] w fun e w'=>e=.returned (.bool ((moOf m).room n i))∧Below w.heap.size w w':=by
 have HD:=Lib.hid (h.depth i hi);have HP:=Lib.hid (fun W (hW:Below w.heap.size w W)=>(h.below hW).proc i hi);have hd:=depth_bd m i;have hq:=need_bd m i
 have Hr:=Lib.hid (show(moOf m).room n i=(decide (0≤depthAt (flowN m.code m.js).1 i)&&(decide (depthAt (flowN m.code m.js).1 i≤n)&&decide ((n:Int) - depthAt (flowN m.code m.js).1 i+needN m i≤64)))from by
  unfold Mo.room;rw[mo_depth,mo_need h.k])
 generalize depthAt (flowN m.code m.js).1 i=d at*;generalize needN m i=q at*;generalize decide (i<m.code.length)=bb at*;unfold prcV at HP;generalize prcN m i=p at*;obtain⟨p0,p1,p2⟩:=p;simp only at HP;clear h;go_enter Tryz.func52,Tryz.ntmps52;go_wp2_with fail;refine HD.out.mono ?_;rintro e w1⟨rfl,hb1⟩;have HP1:=Lib.hid (HP.out w1 hb1);have HB1:=Lib.hid hb1;clear hb1 HP HD;go_wp2_with fail;refine HP1.out.mono ?_;rintro e w2⟨rfl,hb2⟩;have HB2:=Lib.hid (Bel.al (Bel.tr HB1.out hb2) (.cells #[.int .u32 p0,.int .u32 p1,.int .u32 p2,.int .i64 q] 126));clear hb2 HP1;by_cases h0:0≤d
 ·by_cases h1:d≤(n:Int)
  all_goals
   go_wp2_with fail
   all_goals
    go_ret;exact⟨ret_boolE (by rw[Hr.out,Bool.eq_iff_iff];simp only[Bool.and_eq_true,decide_eq_true_eq,Bool.false_eq_true,false_iff,true_iff];omega),HB2.out⟩
 ·go_wp2_with fail
  go_ret;exact⟨ret_boolE (by rw[Hr.out,Bool.eq_iff_iff];simp only[Bool.and_eq_true,decide_eq_true_eq,Bool.false_eq_true,false_iff,true_iff];omega),HB2.out⟩
theorem fld28_4 (a1 a2 a3 a4:Option Addr) (l1 n1 l2 n2 l3 n3 l4 n4:Nat) (z t:Int) (w:World):(Instr.field 28 (.agg #[.slice a1 l1 n1,.slice a2 l2 n2,.slice a3 l3 n3,.int .u32 z,.int .u32 t,.slice a4 l4 n4]) 4).run Tryz.prog w=.ok (.int .u32 t) w:=by kernel_rfl
theorem mfollows:Tryz.prog.follows .mixedOrders=true:=by kernel_rfl
structure StB (w:World) (q:Nat) (vo vd:Value) (s:St):Prop where
 c0:w.cell? ⟨q,0,none⟩=some (.int .u8 s.life)
 c1:w.cell? ⟨q,1,none⟩=some (.int .u32 s.pc)
 c2:w.cell? ⟨q,2,none⟩=some (.int .u32 s.sp)
 c3:w.cell? ⟨q,3,none⟩=some vo
 c4:w.cell? ⟨q,4,none⟩=some vd
 c5:w.cell? ⟨q,5,none⟩=some (.int .u32 s.value)
 c6:w.cell? ⟨q,6,none⟩=some (.int .u8 s.fault)
theorem StB.below {w w':World} {q:Nat} {vo vd:Value} {s:St} (h:StB w q vo vd s) (hb:Below w.heap.size w w'):StB w' q vo vd s:=by
 have hl:=World.block_lt_of_cell? _ _ h.c0
 exact⟨(hb.cell (p:=⟨q,0,none⟩) hl).trans h.c0,(hb.cell (p:=⟨q,1,none⟩) hl).trans h.c1,(hb.cell (p:=⟨q,2,none⟩) hl).trans h.c2,(hb.cell (p:=⟨q,3,none⟩) hl).trans h.c3,
  (hb.cell (p:=⟨q,4,none⟩) hl).trans h.c4,(hb.cell (p:=⟨q,5,none⟩) hl).trans h.c5,(hb.cell (p:=⟨q,6,none⟩) hl).trans h.c6⟩
theorem StB.row {w:World} {q:Nat} {vo vd:Value} {s:St} (h:w.heap[q]?=some (.cells #[.int .u8 s.life,.int .u32 s.pc,.int .u32 s.sp,vo,vd,.int .u32 s.value,.int .u8 s.fault] 51 (0,0))):StB w q vo vd s:=
 ⟨cell_of_row w q 0 _ _ _ h,cell_of_row w q 1 _ _ _ h,cell_of_row w q 2 _ _ _ h,cell_of_row w q 3 _ _ _ h,cell_of_row w q 4 _ _ _ h,cell_of_row w q 5 _ _ _ h,cell_of_row w q 6 _ _ _ h⟩
section
variable {m:Mo} {s:St}
theorem fits_no1 (h:s.data.length≠2 ^ m.k):m.fits s=false:=by unfold Mo.fits;simp[h]
theorem fits_no2 (h:s.sp%4≠0):m.fits s=false:=by unfold Mo.fits;simp[h]
theorem fits_no3 (h:s.sp<2 ^ m.k - m.im.stack):m.fits s=false:=by unfold Mo.fits;simp[show¬2 ^ m.k - m.im.stack≤s.sp by omega]
theorem fits_no4 (h:m.top<s.sp):m.fits s=false:=by unfold Mo.fits;simp[show¬s.sp≤m.top by omega]
theorem fits_no5 (h:s.life≠2) (h2:s.value≠0):m.fits s=false:=by
 unfold Mo.fits;simp only[show decide (s.life≠2→s.value=0)=false from decide_eq_false (fun f=>h2 (f h)),Bool.false_and,Bool.and_false]
theorem fits_no6 (h:s.life≠3) (h2:s.fault≠0):m.fits s=false:=by
 unfold Mo.fits;simp only[show decide (s.life≠3→s.fault=0)=false from decide_eq_false (fun f=>h2 (f h)),Bool.false_and,Bool.and_false]
theorem fits_go (h1:s.data.length=2 ^ m.k) (h2:s.sp%4=0) (h3:2 ^ m.k - m.im.stack≤s.sp) (h4:s.sp≤m.top) (h5:s.life≠2→s.value=0) (h6:s.life≠3→s.fault=0) :
 m.fits s=(if s.life=0 then decide (s.pc=0)&&(decide (s.sp=m.top)&&decide (s.ops.length=0))
 else if s.life=3 then decide (1≤s.fault)&&(decide (s.fault≤8)&&m.room s.ops.length s.pc)
 else if s.life=1 then m.room s.ops.length s.pc
 else if s.life=2 then decide (0≤m.depth s.pc)&&(decide (opAt m.im.code s.pc=4)&&decide ((s.ops.length:Int)+m.need s.pc≤64))
 else false):=by
 unfold Mo.fits;rw[decide_eq_true h1,decide_eq_true h2,decide_eq_true h3,decide_eq_true h4,decide_eq_true h5,decide_eq_true h6];simp only[Bool.true_and]
end
theorem quiet_at {W0:World} {f:FuncId} {args:Array Value} {v:Value} (H:∀W,Below W0.heap.size W0 W→Calls Tryz.prog f args W fun e w'=>e=.returned v∧W=w') :
 ∀T:BelW W0,Calls Tryz.prog f args T.val fun e w'=>e=.returned v∧∃S:BelW W0,w'=S.val:=fun T=>(H T.val T.2).mono fun e w' h=>⟨h.1,T,h.2.symm⟩
theorem fits_any {w:World} {mb:Nat} {m:Img} (h:MAt w mb m) {vo vd:Value} {s:St} (hs:StAt w vo vd s) (hn:s.ops.length≤140737488355328) :
 Calls Tryz.prog 21 #[.pointer (some ⟨mb,0,none⟩),stV vo vd s] w fun e w'=>e=.returned (.bool ((moOf m).fits s))∧Below w.heap.size w w':=by
 have hmx:=mfollows;have hf28:=fld28_4;obtain⟨W0,hW0⟩:∃W0,W0=w.alloc (.cells #[.int .u8 s.life,.int .u32 s.pc,.int .u32 s.sp,vo,vd,.int .u32 s.value,.int .u8 s.fault] 51):=⟨_,rfl⟩;have hb0:Below w.heap.size w W0:=by rw[hW0];exact Bel.new _ _
 have HS0:=Lib.hid (StB.row (s:=s) (vo:=vo) (vd:=vd) (by rw[hW0];exact heap_alloc_new w _):StB W0 w.heap.size vo vd s);have HM:=Lib.hid (h.below hb0);have hok:=moOk h.k;obtain⟨s1,s2,s3,s4,s5,s6⟩:=Mo.Ok.sizes hok;have hk8:8≤bitsI m:=hok.k8;have hk16:bitsI m≤16:=hok.k16;have HB0:=Lib.hid hb0;obtain⟨ao,co,rfl,-,hno,hmo,-⟩:=hs.o.1;obtain⟨ad,cd,rfl,-,hnd,hmd,-⟩:=hs.d.1;have hpc:=hs.sm.p;have hne:Nonempty (BelW W0):=⟨⟨W0,Below.refl _ _⟩⟩;have Q140:=Lib.hid (quiet_at fun W hW=>(HM.out.below hW).empty);have Q112:=Lib.hid (quiet_at fun W hW=>(HM.out.below hW).bits);have Q141:=Lib.hid (quiet_at fun W hW=>(HM.out.below hW).top);have T2:=BelW.cell HS0.out.c2;have T4:=BelW.cell HS0.out.c4;have hK:∃K:Nat,K=2 ^ bitsI m:=⟨_,rfl⟩;obtain⟨K,hK⟩:=hK;have HK:=Lib.hid hK;have s1':256≤K:=by rw[hK];exact s1
 have s2':K≤65536:=by rw[hK];exact s2
 have s3':m.stack≤K:=by rw[hK];exact s3
 have hp2:(2:Int) ^ bitsI m=(K:Int):=by rw[hK];simp
 have hwK:IntKind.i64.wrap (K:Int)=(K:Int):=IntWalk.i64_in _ (by omega);have hwK2:IntKind.u32.wrap (K:Int)=(K:Int):=by rw[IntKind.wrap_u32];omega
 have htop:(moOf m).top=K - 64:=by rw[hK];rfl
 have Htop:=Lib.hid htop;have hkk:(moOf m).k=bitsI m:=rfl;have F1:=Lib.hid (show s.data.length≠K→(moOf m).fits s=false from fun h=>fits_no1 (by rw[hkk,←HK.out];exact h));have F2:=Lib.hid (show s.sp%4≠0→(moOf m).fits s=false from fits_no2);have F3:=Lib.hid (show s.sp<K - m.stack→(moOf m).fits s=false from fun h=>fits_no3 (by rw[hkk,←HK.out];exact h));have F4:=Lib.hid (show K - 64<s.sp→(moOf m).fits s=false from fun h=>fits_no4 (by rw[Htop.out];exact h));have F5:=Lib.hid (show s.life≠2→s.value≠0→(moOf m).fits s=false from fits_no5);have F6:=Lib.hid (show s.life≠3→s.fault≠0→(moOf m).fits s=false from fits_no6);have FG:=Lib.hid (show s.data.length=K→s.sp%4=0→K - m.stack≤s.sp→s.sp≤K - 64→(s.life≠2→s.value=0)→(s.life≠3→s.fault=0)→(moOf m).fits s=_ from fun h1 h2 h3 h4 h5 h6=>fits_go (by rw[hkk,←HK.out];exact h1) h2 (by rw[hkk,←HK.out];exact h3) (by rw[Htop.out];exact h4) h5 h6);rw[htop]at Q141 FG;have HR:=Lib.hid (fun W (hW:Below W0.heap.size W0 W)=>room_any' (HM.out.below hW) s.ops.length s.pc hn hpc);have HIm:=Lib.hid (fun W (hW:Below W0.heap.size W0 W)=>(HM.out.below hW).image);have HTo:=Lib.hid (fun W (hW:Below W0.heap.size W0 W)=>(HM.out.below hW).top);rw[htop]at HTo;have HBi:=Lib.hid (fun W (hW:Below W0.heap.size W0 W)=>(HM.out.below hW).bits);have HNo:=Lib.hid (fun W (hW:Below W0.heap.size W0 W)=>(HM.out.below hW).empty)
 have HKp:=Lib.hid (fun (W W':World) (hb:Below W.heap.size W W') (hS:((W.cell? ⟨w.heap.size,0,none⟩=some (.int .u8 s.life)∧W.cell? ⟨w.heap.size,2,none⟩=some (.int .u32 s.sp)∧W.cell? ⟨w.heap.size,4,none⟩=some (.slice ad s.data.length cd))∧Below W0.heap.size W0 W))=>
  (⟨⟨(HS0.out.below (Bel.tr hS.2 hb)).c0,(HS0.out.below (Bel.tr hS.2 hb)).c2,(HS0.out.below (Bel.tr hS.2 hb)).c4⟩,Bel.tr hS.2 hb⟩:((W'.cell? ⟨w.heap.size,0,none⟩=some (.int .u8 s.life)∧W'.cell? ⟨w.heap.size,2,none⟩=some (.int .u32 s.sp)∧W'.cell? ⟨w.heap.size,4,none⟩=some (.slice ad s.data.length cd))∧Below W0.heap.size W0 W')))
 generalize hfit:(moOf m).fits s=ff at*;have Hsm:=Lib.hid hs.sm;have hLl:s.data.length≤9223372036854775807:=by unfold maxLen at hmd;omega
 have hsp:=hs.sm.s;generalize bitsI m=k at*;clear hfit hs h hb0 hok s1 s2 s3 s4 s5 s6 hkk htop hK;unfold stV;by_cases c1:s.data.length=K
 ·have C1:=Lib.hid c1
  have hd0:(((s.data.length:Nat):Int)==(K:Int))=true:=by simp;omega
  have hd1:(((s.data.length:Nat):Int)!=(K:Int))=false:=by simp;omega
  clear c1;by_cases c2:s.sp%4=0
  ·have C2:=Lib.hid c2
   have hd2:(((s.sp:Nat):Int).tmod 4==0)=true:=by rw[Int.tmod_eq_emod_of_nonneg (by omega)];simp;omega
   have hd3:(((s.sp:Nat):Int).tmod 4 !=0)=false:=by rw[Int.tmod_eq_emod_of_nonneg (by omega)];simp;omega
   have hd4:(((s.sp:Nat):Int)%4==0)=true:=by simp;omega
   have hd5:(((s.sp:Nat):Int)%4 !=0)=false:=by simp;omega
   clear c2;obtain⟨Y,hY⟩:∃Y,Y=K - m.stack:=⟨_,rfl⟩;obtain⟨Z,hZ⟩:∃Z,Z=K - 64:=⟨_,rfl⟩;have hw3:IntKind.u32.wrap ((K:Int) - (m.stack:Int))=(Y:Int):=by rw[IntKind.wrap_u32];omega
   rw[←hY]at F3 FG;rw[←hZ]at F4 FG HTo;have H00:=Lib.hid (⟨⟨HS0.out.c0,HS0.out.c2,HS0.out.c4⟩,(Below.refl _ _).drew⟩:(W0.drew.cell? ⟨w.heap.size,0,none⟩=some (.int .u8 s.life)∧W0.drew.cell? ⟨w.heap.size,2,none⟩=some (.int .u32 s.sp)∧W0.drew.cell? ⟨w.heap.size,4,none⟩=some (.slice ad s.data.length cd))∧Below W0.heap.size W0 W0.drew);by_cases c3:s.sp<Y
   ·have hff:ff=false:=F3.out c3
    subst hff;have hc3:((s.sp:Nat):Int)<(Y:Int):=(by omega);clear hY hZ;go_enter Tryz.func21,Tryz.ntmps21;go_wp2_with fail;rw[←hW0];clear hW0;refine wp_region_held_drew (S:=((fun w'=>(w'.cell? ⟨w.heap.size,0,none⟩=some (.int .u8 s.life)∧w'.cell? ⟨w.heap.size,2,none⟩=some (.int .u32 s.sp)∧w'.cell? ⟨w.heap.size,4,none⟩=some (.slice ad s.data.length cd))∧Below W0.heap.size W0 w'))) (by kernel_rfl) H00.out (fun hHeld=>?_);refine tk 0 hHeld ?_;refine rd 1 _ fun K hK=>?_;go_simp;refine(HNo.out _ hHeld.2).mono ?_;rintro e wN⟨rfl,rfl⟩;refine hK.out _ _ hHeld (fun _=>?_);clear hK K
    try simp only[Act.put,aT,aZ,aS]
    refine tk 2 hHeld ?_;refine tk 3 hHeld ?_;refine tk 4 hHeld ?_;refine tk 5 hHeld ?_;refine tk 6 hHeld ?_;refine rd 7 _ fun K hK=>?_;go_simp;refine(HBi.out _ hHeld.2).mono ?_;rintro e wN⟨rfl,rfl⟩;refine hK.out _ _ hHeld (fun _=>?_);clear hK K
    try simp only[Act.put,aT,aZ,aS]
    refine tk 8 hHeld ?_;refine tk 9 hHeld ?_;refine tk 10 hHeld ?_;refine tk 11 hHeld ?_;refine tk 12 hHeld ?_;refine tk 13 hHeld ?_;refine tk 14 hHeld ?_;refine tk 15 hHeld ?_;refine tk 16 hHeld ?_;refine tk 17 hHeld ?_;refine tk 18 hHeld ?_;refine tk 19 hHeld ?_;refine tk 20 hHeld ?_;refine tk 23 hHeld ?_;refine rd 21 _ fun K hK=>?_;go_simp;refine(HBi.out _ hHeld.2).mono ?_;rintro e wN⟨rfl,rfl⟩;refine hK.out _ _ hHeld (fun _=>?_);clear hK K
    try simp only[Act.put,aT,aZ,aS]
    refine tk 22 hHeld ?_;refine rd 24 _ fun K hK=>?_;go_simp;refine(HIm.out _ hHeld.2).mono ?_;rintro e wI⟨uc,uj,ud,un,rfl,hio,hbI⟩;obtain⟨a1,n1,rfl,-⟩:=own_sl hio.c;obtain⟨a2,n2,rfl,-⟩:=own_sl hio.j;obtain⟨a3,n3,rfl,-⟩:=own_sl hio.d;obtain⟨a4,n4,rfl,-⟩:=own_sl hio.n;have hHeld:=HKp.out _ _ hbI hHeld;refine hK.out _ _ hHeld (fun _=>?_);clear hK K
    try simp only[Act.put,aT,aZ,aS]
    refine tk 25 hHeld ?_;refine tk 26 hHeld ?_;refine tk 27 hHeld ?_;refine tk 28 hHeld ?_;refine tk 29 hHeld ?_;refine wpAnyH_take (i:=30) (v:=undef) (by simp only[List.getElem?_toArray,List.getElem?_cons_succ,List.getElem?_cons_zero,Option.some.injEq];rfl) (by kernel_rfl) (by kernel_rfl) (by kernel_rfl) (by exact fun _ _ _ h=>h) (Or.inr ⟨by rfl,rfl⟩) hHeld ?_
    try simp only[Act.put,aT,aZ,aS]
    refine wpAnyH_take (i:=31) (v:=undef) (by simp only[List.getElem?_toArray,List.getElem?_cons_succ,List.getElem?_cons_zero,Option.some.injEq];rfl) (by kernel_rfl) (by kernel_rfl) (by kernel_rfl) (by exact fun _ _ _ h=>h) (Or.inr ⟨by rfl,rfl⟩) hHeld ?_
    try simp only[Act.put,aT,aZ,aS]
    refine wpAnyH_take (i:=32) (v:=undef) (by simp only[List.getElem?_toArray,List.getElem?_cons_succ,List.getElem?_cons_zero,Option.some.injEq];rfl) (by kernel_rfl) (by kernel_rfl) (by kernel_rfl) (by exact fun _ _ _ h=>h) (Or.inr ⟨by rfl,rfl⟩) hHeld ?_
    try simp only[Act.put,aT,aZ,aS]
    refine wpAnyH_take (i:=33) (v:=undef) (by simp only[List.getElem?_toArray,List.getElem?_cons_succ,List.getElem?_cons_zero,Option.some.injEq];rfl) (by kernel_rfl) (by kernel_rfl) (by kernel_rfl) (by exact fun _ _ _ h=>h) (Or.inr ⟨by rfl,rfl⟩) hHeld ?_
    try simp only[Act.put,aT,aZ,aS]
    refine wpAnyH_take (i:=34) (v:=undef) (by simp only[List.getElem?_toArray,List.getElem?_cons_succ,List.getElem?_cons_zero,Option.some.injEq];rfl) (by kernel_rfl) (by kernel_rfl) (by kernel_rfl) (by exact fun _ _ _ h=>h) (Or.inr ⟨by rfl,rfl⟩) hHeld ?_
    try simp only[Act.put,aT,aZ,aS]
    refine tk 35 hHeld ?_;refine wpAnyH_done (by kernel_rfl) ?_ _;have HB2:=Lib.hid (Bel.tr HB0.out hHeld.2);go_wp2_with fail;go_ret;exact⟨rfl,HB2.out⟩
   ·by_cases c4:Z<s.sp
    ·have hff:ff=false:=F4.out c4
     subst hff;have hc3:¬((s.sp:Nat):Int)<(Y:Int):=(by omega);have hc4:(Z:Int)<((s.sp:Nat):Int):=(by omega);clear hY hZ;go_enter Tryz.func21,Tryz.ntmps21;go_wp2_with fail;rw[←hW0];clear hW0
     first|(go_region_held3(fun w'=>(w'.cell? ⟨w.heap.size,0,none⟩=some (.int .u8 s.life)∧w'.cell? ⟨w.heap.size,2,none⟩=some (.int .u32 s.sp)∧w'.cell? ⟨w.heap.size,4,none⟩=some (.slice ad s.data.length cd))∧Below W0.heap.size W0 w')
     (first|assumption|exact H00.out|exact HKp.out _ _ hbI (by assumption))
     (first
      | (go_at_call 50;refine(HNo.out _ ?_).mono ?_;exact(by assumption:(_∧_)∧Below W0.heap.size W0 _).2;rintro e wN⟨rfl,rfl⟩)
      | (go_at_call 42;refine(HBi.out _ ?_).mono ?_;exact(by assumption:(_∧_)∧Below W0.heap.size W0 _).2;rintro e wN⟨rfl,rfl⟩)
      | (go_at_call 51;refine(HTo.out _ ?_).mono ?_;exact(by assumption:(_∧_)∧Below W0.heap.size W0 _).2;rintro e wN⟨rfl,rfl⟩)
      | (go_at_call 40; refine (HIm.out _ ?_).mono ?_; exact (by assumption : (_ ∧ _) ∧ Below W0.heap.size W0 _).2; rintro e wI ⟨uc, uj, ud, un, rfl, hio, hbI⟩; obtain ⟨a1, n1, rfl, -⟩ := own_sl hio.c; obtain ⟨a2, n2, rfl, -⟩ := own_sl hio.j; obtain ⟨a3, n3, rfl, -⟩ := own_sl hio.d; obtain ⟨a4, n4, rfl, -⟩ := own_sl hio.n))) | fail "held"
     all_goals
      have HB2:=Lib.hid (Bel.tr HB0.out (by assumption:(_∧_)∧Below W0.heap.size W0 _).2);go_wp2_with fail;go_ret;exact⟨rfl,HB2.out⟩
    ·have hc3:¬((s.sp:Nat):Int)<(Y:Int):=by omega
     have hc4:¬(Z:Int)<((s.sp:Nat):Int):=(by omega);have FG2:=Lib.hid (FG.out C1.out C2.out (by omega) (by omega));clear hY hZ;go_enter Tryz.func21,Tryz.ntmps21;go_wp2_with fail;rw[←hW0];clear hW0
     first|(go_region_held3(fun w'=>(w'.cell? ⟨w.heap.size,0,none⟩=some (.int .u8 s.life)∧w'.cell? ⟨w.heap.size,2,none⟩=some (.int .u32 s.sp)∧w'.cell? ⟨w.heap.size,4,none⟩=some (.slice ad s.data.length cd))∧Below W0.heap.size W0 w')
     (first|assumption|exact H00.out|exact HKp.out _ _ hbI (by assumption))
     (first
      | (go_at_call 50;refine(HNo.out _ ?_).mono ?_;exact(by assumption:(_∧_)∧Below W0.heap.size W0 _).2;rintro e wN⟨rfl,rfl⟩)
      | (go_at_call 42;refine(HBi.out _ ?_).mono ?_;exact(by assumption:(_∧_)∧Below W0.heap.size W0 _).2;rintro e wN⟨rfl,rfl⟩)
      | (go_at_call 51;refine(HTo.out _ ?_).mono ?_;exact(by assumption:(_∧_)∧Below W0.heap.size W0 _).2;rintro e wN⟨rfl,rfl⟩)
      | (go_at_call 40; refine (HIm.out _ ?_).mono ?_; exact (by assumption : (_ ∧ _) ∧ Below W0.heap.size W0 _).2; rintro e wI ⟨uc, uj, ud, un, rfl, hio, hbI⟩; obtain ⟨a1, n1, rfl, -⟩ := own_sl hio.c; obtain ⟨a2, n2, rfl, -⟩ := own_sl hio.j; obtain ⟨a3, n3, rfl, -⟩ := own_sl hio.d; obtain ⟨a4, n4, rfl, -⟩ := own_sl hio.n))) | fail "held"
     have HB1:=Lib.hid (by assumption:(_∧_)∧Below W0.heap.size W0 _).2;have HBw:=Lib.hid (Bel.tr HB0.out HB1.out);obtain⟨d0,d1,d2,d3,d4,d5,d6⟩:=HS0.out.below HB1.out;have HR1:=Lib.hid (HR.out _ HB1.out);rename_i wE;have QT:=Lib.hid (quiet_at fun W hW=>HTo.out W (Bel.tr HB1.out hW));clear HR HIm HBi HNo Q140 Q112 Q141 T2 T4 H00 hc3 hc4 HTo;have hne1:Nonempty (BelW wI):=⟨⟨wI,Below.refl _ _⟩⟩;have HAt:=Lib.hid (fun W (hW:Below wI.heap.size wI W)=>(HM.out.below (Bel.tr HB1.out hW)).instr s.pc hpc);have HPr:=Lib.hid (fun W (hW:Below wI.heap.size wI W)=>(HM.out.below (Bel.tr HB1.out hW)).proc s.pc hpc);have HDe:=Lib.hid (fun W (hW:Below wI.heap.size wI W)=>(HM.out.below (Bel.tr HB1.out hW)).depth s.pc hpc);generalize s.life=life at*;by_cases v0:s.value=0
     ·have hv1:(((s.value:Nat):Int)==0)=true:=by simp;omega
      have hv2:(((s.value:Nat):Int)!=0)=false:=(by simp;omega);by_cases f0:s.fault=0
      ·have hf1:(((s.fault:Nat):Int)==0)=true:=by simp;omega
       have hf2:(((s.fault:Nat):Int)!=0)=false:=(by simp;omega);have HG:=Lib.hid (FG2.out (fun _=>v0) (fun _=>f0));have hg1:¬(1:Int)≤((s.fault:Nat):Int):=(by omega);rcases(by omega:life=0∨life=1∨life=2∨life=3∨4≤life)with rfl|rfl|rfl|rfl|hl
       ·have T1:=BelW.cell d1
        have T2:=BelW.cell d2;have T3:=BelW.cell d3;by_cases p0:s.pc=0
        ·have hp1:(((s.pc:Nat):Int)==0)=true:=by simp;omega
         by_cases z0:s.sp=Z
         ·have hz1:(((s.sp:Nat):Int)==(Z:Int))=true:=by simp;omega
          by_cases o0:s.ops.length=0
          ·have ho1:(((s.ops.length:Nat):Int)==0)=true:=by rw[o0];rfl
           go_wp2_with fail;refine wp_region_quietB hmx (by kernel_rfl) ?_
           repeat(go_big_quiet_step (first|(go_at_call 51;exact QT.out _)))
           refine wpQuiet_nil ?_;rintro w5⟨⟨w6,hb6⟩,rfl⟩;have HB6:=Lib.hid (Bel.tr HBw.out hb6);clear hb6;go_wp2_with fail;go_ret;exact⟨ret_boolE (HG.out.trans (by simp[*])).symm,HB6.out⟩
          ·have ho1:(((s.ops.length:Nat):Int)==0)=false:=int_beq_ne o0
           go_wp2_with fail;refine wp_region_quietB hmx (by kernel_rfl) ?_
           repeat(go_big_quiet_step (first|(go_at_call 51;exact QT.out _)))
           refine wpQuiet_nil ?_;rintro w5⟨⟨w6,hb6⟩,rfl⟩;have HB6:=Lib.hid (Bel.tr HBw.out hb6);clear hb6;go_wp2_with fail;go_ret;exact⟨ret_boolE (HG.out.trans (by simp[*])).symm,HB6.out⟩
         ·have hz1:=int_beq_ne z0
          go_wp2_with fail;refine wp_region_quietB hmx (by kernel_rfl) ?_
          repeat(go_big_quiet_step (first|(go_at_call 51;exact QT.out _)))
          refine wpQuiet_nil ?_;rintro w5⟨⟨w6,hb6⟩,rfl⟩;have HB6:=Lib.hid (Bel.tr HBw.out hb6);clear hb6;go_wp2_with fail;go_ret;exact⟨ret_boolE (HG.out.trans (by simp[*])).symm,HB6.out⟩
        ·have hp1:(((s.pc:Nat):Int)==0)=false:=int_beq_ne p0
         go_wp2_with fail;refine wp_region_quietB hmx (by kernel_rfl) ?_
         repeat(go_big_quiet_step (first|(go_at_call 51;exact QT.out _)))
         refine wpQuiet_nil ?_;rintro w5⟨⟨w6,hb6⟩,rfl⟩;have HB6:=Lib.hid (Bel.tr HBw.out hb6);clear hb6;go_wp2_with fail;go_ret;exact⟨ret_boolE (HG.out.trans (by simp[*])).symm,HB6.out⟩
       ·go_wp2_with fail
        refine HR1.out.mono ?_;rintro e w5⟨rfl,hb5⟩;go_wp2_with fail;go_ret;exact⟨ret_boolE (HG.out.trans (by simp)).symm,Bel.tr HBw.out hb5⟩
       ·have HA1:=Lib.hid (HAt.out wI (Below.refl _ _))
        unfold instrV at HA1;unfold prcV at HPr;go_wp2_with fail;refine HA1.out.mono ?_;rintro e w5⟨rfl,hb5⟩;have HP1:=Lib.hid (fun o=>HPr.out (w5.alloc o) (Bel.al hb5 o));obtain⟨w5a,hw5a⟩:∃x,x=w5.alloc (.cells #[.int .u8 (opAt m.code s.pc),.int .u32 (argAt m.code s.pc)] 106):=⟨_,rfl⟩;have HB5:=Lib.hid (show Below wI.heap.size wI w5a from by rw[hw5a];exact Bel.al hb5 _);have H5:=Lib.hid (show w5a.heap[w5.heap.size]?=some (.cells #[.int .u8 (opAt m.code s.pc),.int .u32 (argAt m.code s.pc)] 106 (0,0))from by rw[hw5a];exact heap_alloc_new _ _);obtain⟨e1,e2,e3,e4,e5,e6,e7⟩:=HS0.out.below (Bel.tr HB1.out hb5);have hlt5:w.heap.size<w5.heap.size:=World.block_lt_of_cell? _ _ e1;have HP5:=Lib.hid (HPr.out w5a HB5.out);clear hb5 HP1;go_wp2_with fail;rw[←hw5a];clear hw5a;refine HP5.out.mono ?_;rintro e w6⟨rfl,hb6⟩;obtain⟨w7,hw7⟩:∃x,x=w6.alloc (.cells #[.int .u32 (prcN m s.pc).1,.int .u32 (prcN m s.pc).2.1,.int .u32 (prcN m s.pc).2.2,.int .i64 (needN m s.pc)] 126):=⟨_,rfl⟩;have HB67:=Lib.hid (show Below w5a.heap.size w5a w7 from by rw[hw7];exact Bel.al hb6 _);have HB7:=Lib.hid (Bel.tr HB5.out HB67.out);have H7:=Lib.hid (show w7.heap[w6.heap.size]?=some (.cells #[.int .u32 (prcN m s.pc).1,.int .u32 (prcN m s.pc).2.1,.int .u32 (prcN m s.pc).2.2,.int .i64 (needN m s.pc)] 126 (0,0))from by rw[hw7];exact heap_alloc_new _ _);clear e1 e2 e3 e4 e5 e6 e7;obtain⟨e1,e2,e3,e4,e5,e6,e7⟩:=HS0.out.below (Bel.tr HB1.out (Bel.tr HB5.out hb6));have hlt6:w.heap.size<w6.heap.size:=World.block_lt_of_cell? _ _ e1;clear hb6;have HD7:=Lib.hid (HDe.out w7 HB7.out);have Hbd:=depth_bd m s.pc;have Hnd:=need_bd m s.pc;have HG2:=Lib.hid (show ff=(decide (0≤depthAt (flowN m.code m.js).1 s.pc)&&(decide (opAt m.code s.pc=4)&&decide ((s.ops.length:Int)+needN m s.pc≤64)))from HG.out.trans (by rw[if_neg (by decide),if_neg (by decide),if_neg (by decide),if_pos (by first|trivial|rfl),mo_depth,mo_need HM.out.k];rfl));have h50:=World.block_lt_of_cell? _ _ (cell_of_row w5a w5.heap.size 0 _ _ _ H5.out);go_wp2_with fail;rw[←hw7];clear hw7;refine HD7.out.mono ?_;rintro e w8⟨rfl,hb8⟩;have HB8:=Lib.hid (Bel.tr HB7.out hb8);have c50:=((Bel.tr HB67.out hb8).cell (p:=⟨w5.heap.size,0,none⟩) h50).trans (cell_of_row w5a w5.heap.size 0 _ _ _ H5.out);have c73:=(hb8.cell (p:=⟨w6.heap.size,3,none⟩) (World.block_lt_of_cell? _ _ (cell_of_row w7 w6.heap.size 3 _ _ _ H7.out))).trans (cell_of_row w7 w6.heap.size 3 _ _ _ H7.out);clear e1 e2 e3 e4 e5 e6 e7 hb8;obtain⟨e1,e2,e3,e4,e5,e6,e7⟩:=HS0.out.below (Bel.tr HB1.out HB8.out);generalize depthAt (flowN m.code m.js).1 s.pc=dd at*;generalize needN m s.pc=nd at*;generalize opAt m.code s.pc=oa at*;by_cases q1:0≤dd
        ·by_cases q2:oa=4
         ·have q3:((oa:Nat):Int)==4:=by simp;omega
          have hwn:IntKind.i64.wrap ((s.ops.length:Int)+nd)=(s.ops.length:Int)+nd:=IntWalk.i64_in _ (by omega);go_wp2_with fail;go_ret;exact⟨ret_boolE (HG2.out.trans (by simp[q1,q2])).symm,Bel.tr HBw.out HB8.out⟩
         ·have q3:(((oa:Nat):Int)==4)=false:=by simp;omega
          go_wp2_with fail;go_ret;exact⟨ret_boolE (HG2.out.trans (by simp[q1,q2])).symm,Bel.tr HBw.out HB8.out⟩
        ·go_wp2_with fail
         go_ret;exact⟨ret_boolE (HG2.out.trans (by simp;omega)).symm,Bel.tr HBw.out HB8.out⟩
       ·go_wp2_with fail
        go_ret;exact⟨ret_boolE (HG.out.trans (by simp[f0])).symm,HBw.out⟩
       ·have hl0:(((life:Nat):Int)==0)=false:=by simp;omega
        have hl1:(((life:Nat):Int)==1)=false:=(by simp;omega);have hl2:(((life:Nat):Int)==2)=false:=(by simp;omega);have hl3:(((life:Nat):Int)==3)=false:=(by simp;omega);have hl4:(((life:Nat):Int)!=2)=true:=(by simp;omega);have hl5:(((life:Nat):Int)!=3)=true:=(by simp;omega);go_wp2_with fail;go_ret;exact⟨ret_boolE (HG.out.trans (by simp[show life≠0 by omega,show life≠1 by omega,show life≠2 by omega,show life≠3 by omega])).symm,HBw.out⟩
      ·have hf1:(((s.fault:Nat):Int)==0)=false:=by simp;omega
       have hf2:(((s.fault:Nat):Int)!=0)=true:=(by simp;omega);rcases(by omega:life=3∨life≠3)with rfl|hl
       ·have HG:=Lib.hid (FG2.out (fun _=>v0) (fun h=>absurd rfl h))
        have hg1:(1:Int)≤((s.fault:Nat):Int):=(by omega);by_cases f8:s.fault≤8
        ·have hg2:((s.fault:Nat):Int)≤8:=by omega
         go_wp2_with fail;refine HR1.out.mono ?_;rintro e w5⟨rfl,hb5⟩;go_wp2_with fail;go_ret;exact⟨ret_boolE (HG.out.trans (by simp[f8,show 1≤s.fault by omega])).symm,Bel.tr HBw.out hb5⟩
        ·have hg2:¬((s.fault:Nat):Int)≤8:=by omega
         go_wp2_with fail;go_ret;exact⟨ret_boolE (HG.out.trans (by simp[f8])).symm,HBw.out⟩
       ·have hl2:(((life:Nat):Int)==3)=false:=by simp;omega
        have hl3:(((life:Nat):Int)!=3)=true:=(by simp;omega);rcases(by omega:life=2∨life≠2)with rfl|hq
        ·go_wp2_with fail
         go_ret;exact⟨ret_boolE (F6.out hl f0).symm,HBw.out⟩
        ·have hq2:(((life:Nat):Int)==2)=false:=by simp;omega
         have hq3:(((life:Nat):Int)!=2)=true:=(by simp;omega);go_wp2_with fail;go_ret;exact⟨ret_boolE (F6.out hl f0).symm,HBw.out⟩
     ·have hv1:(((s.value:Nat):Int)==0)=false:=by simp;omega
      have hv2:(((s.value:Nat):Int)!=0)=true:=(by simp;omega);rcases(by omega:life=2∨life≠2)with rfl|hl
      ·by_cases f0:s.fault=0
       ·have hf1:(((s.fault:Nat):Int)==0)=true:=by simp;omega
        have hf2:(((s.fault:Nat):Int)!=0)=false:=(by simp;omega);have HG:=Lib.hid (FG2.out (fun h=>absurd rfl h) (fun _=>f0));have HA1:=Lib.hid (HAt.out wI (Below.refl _ _));unfold instrV at HA1;unfold prcV at HPr;go_wp2_with fail;refine HA1.out.mono ?_;rintro e w5⟨rfl,hb5⟩;have HP1:=Lib.hid (fun o=>HPr.out (w5.alloc o) (Bel.al hb5 o));obtain⟨w5a,hw5a⟩:∃x,x=w5.alloc (.cells #[.int .u8 (opAt m.code s.pc),.int .u32 (argAt m.code s.pc)] 106):=⟨_,rfl⟩;have HB5:=Lib.hid (show Below wI.heap.size wI w5a from by rw[hw5a];exact Bel.al hb5 _);have H5:=Lib.hid (show w5a.heap[w5.heap.size]?=some (.cells #[.int .u8 (opAt m.code s.pc),.int .u32 (argAt m.code s.pc)] 106 (0,0))from by rw[hw5a];exact heap_alloc_new _ _);obtain⟨e1,e2,e3,e4,e5,e6,e7⟩:=HS0.out.below (Bel.tr HB1.out hb5);have hlt5:w.heap.size<w5.heap.size:=World.block_lt_of_cell? _ _ e1;have HP5:=Lib.hid (HPr.out w5a HB5.out);clear hb5 HP1;go_wp2_with fail;rw[←hw5a];clear hw5a;refine HP5.out.mono ?_;rintro e w6⟨rfl,hb6⟩;obtain⟨w7,hw7⟩:∃x,x=w6.alloc (.cells #[.int .u32 (prcN m s.pc).1,.int .u32 (prcN m s.pc).2.1,.int .u32 (prcN m s.pc).2.2,.int .i64 (needN m s.pc)] 126):=⟨_,rfl⟩;have HB67:=Lib.hid (show Below w5a.heap.size w5a w7 from by rw[hw7];exact Bel.al hb6 _);have HB7:=Lib.hid (Bel.tr HB5.out HB67.out);have H7:=Lib.hid (show w7.heap[w6.heap.size]?=some (.cells #[.int .u32 (prcN m s.pc).1,.int .u32 (prcN m s.pc).2.1,.int .u32 (prcN m s.pc).2.2,.int .i64 (needN m s.pc)] 126 (0,0))from by rw[hw7];exact heap_alloc_new _ _);clear e1 e2 e3 e4 e5 e6 e7;obtain⟨e1,e2,e3,e4,e5,e6,e7⟩:=HS0.out.below (Bel.tr HB1.out (Bel.tr HB5.out hb6));have hlt6:w.heap.size<w6.heap.size:=World.block_lt_of_cell? _ _ e1;clear hb6;have HD7:=Lib.hid (HDe.out w7 HB7.out);have Hbd:=depth_bd m s.pc;have Hnd:=need_bd m s.pc;have HG2:=Lib.hid (show ff=(decide (0≤depthAt (flowN m.code m.js).1 s.pc)&&(decide (opAt m.code s.pc=4)&&decide ((s.ops.length:Int)+needN m s.pc≤64)))from HG.out.trans (by rw[if_neg (by decide),if_neg (by decide),if_neg (by decide),if_pos (by first|trivial|rfl),mo_depth,mo_need HM.out.k];rfl));have h50:=World.block_lt_of_cell? _ _ (cell_of_row w5a w5.heap.size 0 _ _ _ H5.out);go_wp2_with fail;rw[←hw7];clear hw7;refine HD7.out.mono ?_;rintro e w8⟨rfl,hb8⟩;have HB8:=Lib.hid (Bel.tr HB7.out hb8);have c50:=((Bel.tr HB67.out hb8).cell (p:=⟨w5.heap.size,0,none⟩) h50).trans (cell_of_row w5a w5.heap.size 0 _ _ _ H5.out);have c73:=(hb8.cell (p:=⟨w6.heap.size,3,none⟩) (World.block_lt_of_cell? _ _ (cell_of_row w7 w6.heap.size 3 _ _ _ H7.out))).trans (cell_of_row w7 w6.heap.size 3 _ _ _ H7.out);clear e1 e2 e3 e4 e5 e6 e7 hb8;obtain⟨e1,e2,e3,e4,e5,e6,e7⟩:=HS0.out.below (Bel.tr HB1.out HB8.out);generalize depthAt (flowN m.code m.js).1 s.pc=dd at*;generalize needN m s.pc=nd at*;generalize opAt m.code s.pc=oa at*;by_cases q1:0≤dd
        ·by_cases q2:oa=4
         ·have q3:((oa:Nat):Int)==4:=by simp;omega
          have hwn:IntKind.i64.wrap ((s.ops.length:Int)+nd)=(s.ops.length:Int)+nd:=IntWalk.i64_in _ (by omega);go_wp2_with fail;go_ret;exact⟨ret_boolE (HG2.out.trans (by simp[q1,q2])).symm,Bel.tr HBw.out HB8.out⟩
         ·have q3:(((oa:Nat):Int)==4)=false:=by simp;omega
          go_wp2_with fail;go_ret;exact⟨ret_boolE (HG2.out.trans (by simp[q1,q2])).symm,Bel.tr HBw.out HB8.out⟩
        ·go_wp2_with fail
         go_ret;exact⟨ret_boolE (HG2.out.trans (by simp;omega)).symm,Bel.tr HBw.out HB8.out⟩
       ·have hf1:(((s.fault:Nat):Int)==0)=false:=by simp;omega
        have hf2:(((s.fault:Nat):Int)!=0)=true:=(by simp;omega);go_wp2_with fail;go_ret;exact⟨ret_boolE (F6.out (by decide) f0).symm,HBw.out⟩
      ·have hl2:(((life:Nat):Int)==2)=false:=by simp;omega
       have hl3:(((life:Nat):Int)!=2)=true:=(by simp;omega);go_wp2_with fail;go_ret;exact⟨ret_boolE (F5.out hl v0).symm,HBw.out⟩
  ·have hd2:(((s.sp:Nat):Int).tmod 4==0)=false:=by rw[Int.tmod_eq_emod_of_nonneg (by omega)];simp;omega
   have hd3:(((s.sp:Nat):Int).tmod 4 !=0)=true:=by rw[Int.tmod_eq_emod_of_nonneg (by omega)];simp;omega
   have hd4:(((s.sp:Nat):Int)%4==0)=false:=by simp;omega
   have hd5:(((s.sp:Nat):Int)%4 !=0)=true:=by simp;omega
   have hff:ff=false:=F2.out c2;subst hff;go_enter Tryz.func21,Tryz.ntmps21;go_wp2_with fail;rw[←hW0];clear hW0;refine wp_region_quietB hmx (by kernel_rfl) ?_
   repeat(go_big_quiet_step (first|(go_at_call 50;exact Q140.out _)|(go_at_call 42;exact Q112.out _)))
   refine wpQuiet_nil ?_;rintro w1⟨⟨w2,hb2⟩,rfl⟩;have HB2:=Lib.hid (Bel.tr HB0.out hb2);clear hb2;go_wp2_with fail;go_ret;exact⟨rfl,HB2.out⟩
 ·have hd0:(((s.data.length:Nat):Int)==(K:Int))=false:=by simp;omega
  have hd1:(((s.data.length:Nat):Int)!=(K:Int))=true:=by simp;omega
  have hff:ff=false:=F1.out c1;subst hff;go_enter Tryz.func21,Tryz.ntmps21;go_wp2_with fail;rw[←hW0];clear hW0;refine wp_region_quietB hmx (by kernel_rfl) ?_
  repeat(go_big_quiet_step (first|(go_at_call 50;exact Q140.out _)|(go_at_call 42;exact Q112.out _)))
  refine wpQuiet_nil ?_;rintro w1⟨⟨w2,hb2⟩,rfl⟩;have HB2:=Lib.hid (Bel.tr HB0.out hb2);clear hb2;go_wp2_with fail;go_ret;exact⟨rfl,HB2.out⟩
end Go.Proofs.YtdffaepbkecoeaaGreat
