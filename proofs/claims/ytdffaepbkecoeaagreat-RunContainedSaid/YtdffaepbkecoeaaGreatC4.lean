import Derived.Test.YtdffaepbkecoeaaGreatC3
import Derived.Shelf.Spec.SlicesInsert
import Derived.Laws.CopyRow
import Derived.Maps.OwnSet
import Derived.Maps.OwnOps
import Derived.Great.BuildSlice
set_option maxRecDepth 100000
set_option maxHeartbeats 8000000
namespace Go.Proofs.YtdffaepbkecoeaaGreat
open Go.RowKit
set_option linter.unusedVariables false
theorem zeroS51 (w:World):(zeroValue 51).run Tryz.prog w=.ok (.agg #[.int .u8 0,.int .u32 0,.int .u32 0,.slice none 0 0,.slice none 0 0,.int .u32 0,.int .u8 0]) w:=by kernel_rfl
theorem run_b51 (x:Int) (a:Option Addr) (n c:Nat) (w:World):(Instr.build 51 #[(2,.int .u32 x),(4,.slice a n c)]).run Tryz.prog w=.ok (.agg #[.int .u8 0,.int .u32 0,.int .u32 x,.slice none 0 0,.slice a n c,.int .u32 0,.int .u8 0]) w:=by kernel_rfl
theorem info51:(Tryz.prog.info? 51).map (·.size)=some 7:=by kernel_rfl
theorem size51 (a b c d e f g:Value):(Tryz.prog.info? 51).map (·.size)=some (#[a,b,c,d,e,f,g]:Array Value).size:=info51
theorem made_bytes (n:Nat):(madeCells (Value.int .u8 0).cells (n*1)).toList=encN .u8 (List.replicate n 0):=by
 unfold madeCells encN;apply List.ext_getElem
 ·simp
 ·intro i h1 h2
  simp[Value.cells,Nat.mod_one]
theorem fresh_splice {m:Mo} (h:m.im.data.length≤2 ^ m.k):splice (encN .u8 (List.replicate (2 ^ m.k) 0)) 0 (encN .u8 m.im.data)=encN .u8 m.fresh:=by
 unfold splice Mo.fresh;rw[List.take_zero,List.nil_append,Nat.zero_add,encN_length,encN_append];congr 1;simp only[encN,←List.map_drop,List.drop_replicate]
def FreshPost (m:Img) (w:World) (e:Ending) (w':World):Prop:=
 ∃vd,e=.returned (.tuple #[stV (.slice none 0 0) vd (moOf m).fst,.int .i64 0])∧w'.ownsRow w.heap.size 5 1 vd (2 ^ bitsI m) (encN .u8 (moOf m).fresh)∧Below w.heap.size w w'
theorem fld28_2 (a1 a2 a3 a4:Option Addr) (l1 n1 l2 n2 l3 n3 l4 n4:Nat) (z t:Int) (w:World):(Instr.field 28 (.agg #[.slice a1 l1 n1,.slice a2 l2 n2,.slice a3 l3 n3,.int .u32 z,.int .u32 t,.slice a4 l4 n4]) 2).run Tryz.prog w=.ok (.slice a3 l3 n3) w:=by kernel_rfl
theorem fresh_any {w:World} {mb:Nat} {m:Img} (h:MAt w mb m):Calls Tryz.prog 38 #[.pointer (some ⟨mb,0,none⟩)] w (FreshPost m w):=by
 have hz51:=zeroS51;have hf28:=fld28_2;have hb51:=run_b51;obtain⟨i5,hi5,x0,x1,x2⟩:=info_parts inf5;have hsz5:(Tryz.prog.info? 5).map (·.size)=some 1:=by kernel_rfl
 obtain⟨Wa,hWa⟩:∃Wa,Wa=w.alloc (.cells #[.int .u8 0,.int .u32 0,.int .u32 0,.slice none 0 0,.slice none 0 0,.int .u32 0,.int .u8 0] 51):=⟨_,rfl⟩;have hba:Below w.heap.size w Wa:=by rw[hWa];exact Bel.new _ _
 have HHa:Hid (Wa.heap[w.heap.size]?=some (.cells #[.int .u8 0,.int .u32 0,.int .u32 0,.slice none 0 0,.slice none 0 0,.int .u32 0,.int .u8 0] 51 (0,0))):=Lib.hid (by rw[hWa];exact heap_alloc_new w _);have hsa:w.heap.size<Wa.heap.size:=by rw[hWa];simp
 have hok:=moOk h.k;obtain⟨s1,s2,s3,s4,s5,s6⟩:=Mo.Ok.sizes hok
 have hroom:m.data.length≤2 ^ bitsI m:=by
  have:=hok.r;unfold roomN at this;have h2:(moOf m).k=bitsI m:=rfl;have h3:(moOf m).im=m:=rfl;rw[h2,h3]at this;omega
 have HSp:=Lib.hid (fresh_splice (m:=moOf m) hroom);have hk8:8≤bitsI m:=hok.k8;have hk16:bitsI m≤16:=hok.k16;have HNo:=Lib.hid (h.below hba).empty;have HBi:=Lib.hid (h.below hba).bits;have HIm:=Lib.hid (fun W (hW:Below Wa.heap.size Wa W)=>((h.below hba).below hW).image);have HTo:=Lib.hid (fun W (hW:Below Wa.heap.size Wa W)=>((h.below hba).below hW).top);have HBa:=Lib.hid hba;have htop:(moOf m).top=2 ^ bitsI m - 64:=rfl;have Hst:=Lib.hid (show(moOf m).fst=⟨0,0,(moOf m).top,[],(moOf m).fresh,0,0⟩from rfl);unfold FreshPost;rw[Hst.out];unfold stV;simp only;rw[htop]at HTo⊢;have hmk:(moOf m).k=bitsI m:=rfl;rw[hmk]at HSp s1 s2 s3 s6;obtain⟨K,hK⟩:∃K:Nat,K=2 ^ bitsI m:=⟨_,rfl⟩;have hp2:(2:Int) ^ bitsI m=(K:Int):=by rw[hK];simp
 have t1:256≤K:=by rw[hK];exact s1
 have t2:K≤65536:=by rw[hK];exact s2
 have hroomK:m.data.length≤K:=by rw[hK];exact hroom
 clear s1 s2 hroom;rw[←hK]at HSp HTo⊢;have hwK:IntKind.i64.wrap (K:Int)=(K:Int):=IntWalk.i64_in _ (by omega);have him:(moOf m).im=m:=rfl;rw[him]at HSp;generalize (moOf m).fresh=fr at*;generalize bitsI m=k at*;clear h hba hok hK hmk him htop Hst s3 s4 s5;go_enter Tryz.func38,Tryz.ntmps38;go_wp2_with fail;rw[←hWa];clear hWa;refine HNo.out.mono ?_;rintro e w1⟨rfl,rfl⟩;go_wp2_with fail;refine HBi.out.mono ?_;rintro e w1⟨rfl,rfl⟩
 go_wp2_with(at_make;refine wpList_make_full _ rfl _ _ 24 rfl Wa.heap.size 5 i5 (.int .u8 0) 1 Tryz.underlying24 hi5 x0 x1 .i64 .i64 _ _ K rfl rfl rfl rfl (by rw[x2];omega) (by unfold maxLen;omega) (Nat.le_refl _) ?_;intro w9 ho9 hg9;rw[made_bytes]at ho9;have hb9:=below_of_none hg9;have HO9:=Lib.hid ho9;have HB9:=Lib.hid hb9;clear ho9 hg9 hb9)
 have HI9:=Lib.hid (HIm.out w9 HB9.out);refine HI9.out.mono ?_;rintro e w2⟨uc,uj,ud,un,rfl,hio,hb2⟩;obtain⟨a1,n1,rfl,-⟩:=own_sl hio.c;obtain⟨a2,n2,rfl,-⟩:=own_sl hio.j;obtain⟨a3,n3,rfl,-,-,hpd⟩:=own_sl hio.d;obtain⟨a4,n4,rfl,-⟩:=own_sl hio.n;obtain⟨cur,q1,q2,q3,q4,q5,q6⟩:=own_cur (own_below HO9.out hb2);have hcur:cur=encN .u8 (List.replicate K 0):=by rw[←q5,List.take_of_length_le (by omega)]
 have HB2:=Lib.hid (Bel.tr HB9.out hb2);have HQ:=Lib.hid q1;have HTo2:=Lib.hid (HTo.out);have hone:=encN_one .u8 m.data;have hmin:(encN .u8 m.data).length=Nat.min m.data.length K:=by rw[encN_length];exact(Nat.min_eq_left (by omega)).symm
 have hle:0+(encN .u8 m.data).length≤cur.length:=by rw[encN_length,q2];omega
 have HSrc:=Lib.hid (show 0<(encN .u8 m.data).length→∃ad,a3=some ad∧∀j v,(encN .u8 m.data)[j]?=some v→w2.cell? (ad.add j)=some v from fun h0=>by
  rw[encN_length]at h0;obtain⟨g,rfl,hg,hc⟩:=hpd h0
  exact⟨_,rfl,fun j v hj=>by
   rw[Addr.add_mid,Nat.zero_add,hc j (List.getElem?_eq_some_iff.1 hj).1];exact hj⟩)
 clear hio hb2 HI9 q1 HIm hpd
 go_wp2_with(((with_reducible refine wpList_copy_splice (o:=⟨some 16,.call {callee:=.builtin .copy,args:=#[.tmp 12,.tmp 15],argTypes:=#[24,24]},_,_,_,none⟩) rfl (.tmp 12) (.tmp 15) 24 24 rfl 5 Tryz.underlying24 hsz5 (some ⟨Wa.heap.size,0,none⟩) a3 K K m.data.length n3 ?_ ?_ Wa.heap.size 0 cur 5 HQ.out (encN .u8 m.data) hmin (fun h0=>⟨rfl,HSrc.out h0⟩) hle hone Wa.heap.size Wa HB2.out (Nat.le_refl _) ?_);rfl;rfl;intro w3 hg3 hb3))
 have HT3:=Lib.hid (HTo2.out w3 hb3);refine HT3.out.mono ?_;rintro e w4⟨rfl,rfl⟩;have HB3:=Lib.hid hb3
 have HG3:=Lib.hid (show w3.ownsRow Wa.heap.size 5 1 (.slice (some ⟨Wa.heap.size,0,none⟩) K K) K (encN .u8 fr)from by
  have h1:=hg3.out;rw[hcur,HSp.out]at h1
  have hl:(encN .u8 fr).length=K:=by
   rw[←HSp.out];unfold splice;simp only[List.length_append,List.length_take,List.length_drop,encN_length,List.length_replicate];omega
  exact⟨by rw[hl];omega,.inr ⟨_,K,_,rfl,Nat.le_refl _,h1,Nat.le_refl _,by unfold maxLen;omega,by simp;omega,by simp[List.take_of_length_le (show(encN .u8 fr).length≤K by omega)]⟩⟩)
 have HH3:=Lib.hid ((HB3.out.block w.heap.size hsa).trans HHa.out);have hsz:=size51 (.int .u8 0) (.int .u32 0) (.int .u32 ((K - 64:Nat):Int)) (.slice none 0 0) (.slice (some ⟨Wa.heap.size,0,none⟩) K K) (.int .u32 0) (.int .u8 0);clear hb3 hg3 HT3
 go_wp2_with(((with_reducible refine wpList_store_row (o:=⟨none,.store 51 (.tmp 2) (.tmp 20),_,_,_,none⟩) rfl 51 _ _ rfl w.heap.size #[.int .u8 0,.int .u32 0,.int .u32 ((K - 64:Nat):Int),.slice none 0 0,.slice (some ⟨Wa.heap.size,0,none⟩) K K,.int .u32 0,.int .u8 0] ?_ ?_ 51 _ HH3.out ?_ ?_ ?_ ?_);rfl;rfl;exact hsz;rfl;(simp[Value.oneCell'])))
 refine bodyPost_ret (v:=.tuple #[.agg #[.int .u8 0,.int .u32 0,.int .u32 ((K - 64:Nat):Int),.slice none 0 0,.slice (some ⟨Wa.heap.size,0,none⟩) K K,.int .u32 0,.int .u8 0],.int .i64 0]) (results_cell_tmp Tryz.results38 _ _ w.heap.size 51 _ (0,0) _ rfl (setRow_heap _ _ _ _ _ _ HH3.out) Tryz.underlying51 rfl hsz _ rfl) rfl ⟨_,rfl,?_,?_⟩
 ·exact own_downT (own_setRow HG3.out hsa) (Nat.le_of_lt hsa)
 ·exact below_setRow (Bel.tr HBa.out HB3.out) _ (Nat.le_refl _) _
set_option linter.unusedSimpArgs false
theorem writeTo_plain (d:List Nat) (a:Nat) (b:List Nat) (hq:a%d.length+b.length≤d.length):∀k,k≤b.length→writeTo d a b k=d.take (a%d.length)++b.take k++d.drop (a%d.length+k)
 | 0,_=>by simp[writeTo]
 | k+1,hk=>by
  have ih:=writeTo_plain d a b hq k (by omega);have hl:=writeTo_length d a b k
  have e:(a+k)%d.length=a%d.length+k:=by
   rw[Nat.add_mod,Nat.mod_eq_of_lt (show a%d.length+k%d.length<d.length by
    have:=Nat.mod_le k d.length;omega),Nat.mod_eq_of_lt (show k<d.length by omega)]
  rw[writeTo,putN,hl,e,ih];generalize a%d.length=q at*
  have h1:(d.take q++b.take k).length=q+k:=by
   rw[List.length_append,List.length_take,List.length_take];omega
  rw[List.set_append_right _ _ (by omega),h1,Nat.sub_self,List.drop_eq_getElem_cons (show q+k<d.length by omega),List.set_cons_zero,List.take_succ_eq_append_getElem (by omega),List.getD_eq_getElem?_getD,List.getElem?_eq_getElem (by omega),Option.getD_some];simp only[List.append_assoc,List.singleton_append,Nat.add_assoc]
theorem mspl_take {α:Type} (l m:List α) {q N:Nat} (h:q+m.length≤N) (hN:N≤l.length):(l.take q++m++l.drop (q+m.length)).take N=(l.take N).take q++m++(l.take N).drop (q+m.length):=by
 have h1:(l.take q++m).length=q+m.length:=by rw[List.length_append,List.length_take];omega
 rw[List.take_append,h1,List.take_of_length_le (by omega),List.take_take,Nat.min_eq_left (by omega),List.drop_take]
theorem copyB {W:World} {g q N c:Nat} {cur:Array Value} (hg:W.heap[g]?=some (.cells cur 5 (0,0))) {v:Value} {b:List Nat} (hb:Bytes W v b) (hfit:q+b.length≤N) (hN:N≤cur.size) :
 (Builtin.copy_ #[24,24] 3 #[.slice (some ⟨g,q,none⟩) (N - q) (c - q),v]).run Tryz.prog W=.ok (goInt b.length) (W.setRow g (cur.toList.take q++encN .u8 b++cur.toList.drop (q+(encN .u8 b).length)).toArray):=by
 obtain⟨va,vc,rfl,hvn,hvm,hva,hvp⟩:=hb.opened;have hsz5:(Tryz.prog.info? 5).map (fun x=>x.size)=some 1:=by kernel_rfl
 cases va with
 | none=>
  have h0:=hva rfl;have hb0:b=[]:=List.eq_nil_of_length_eq_zero (by omega);subst hb0;subst h0;rw[show encN .u8 []=[]from rfl,List.append_nil,show q+([]:List Value).length=q from rfl,List.take_append_drop,Array.toArray_toList,setRow_self W g cur 5 (0,0) hg];exact run_copy_nil Tryz.prog W 24 24 3 5 ⟨g,q,none⟩ _ _ Tryz.underlying24 (by kernel_rfl)
 | some ad=>
  have:=run_copy_row (P:=Tryz.prog) W 24 24 3 5 g q (N - q) (c - q) ad b.length vc cur 5 (encN .u8 b) Tryz.underlying24 hsz5 hg (by rw[encN_length];exact(Nat.min_eq_left (by omega)).symm) (fun j x hj=>by
   have hjl:j<b.length:=by rw[←encN_length .u8 b];exact(List.getElem?_eq_some_iff.1 hj).1
   obtain⟨bb,off,e,hbb,hcc⟩:=hvp (by omega);cases e;rw[Addr.add_mid,hcc j hjl,←encN_at .u8 b j hjl]
   exact hj) (by rw[encN_length];omega) (encN_one .u8 b)
  rw[encN_length]at this⊢;exact this
section
variable {w:World} {p g c N:Nat} {vt:Value} {d:List Nat} {logs:Bool} {tou:List (Nat×Bool)}
theorem write1_any (h:MemAt w p g c N vt d logs tou) {k q q1 q2 n cb b o:Nat} (hk:k<n) (hq:q<N) {x:Int} (h1:w.cell? ⟨q1,0,none⟩=some (.pointer (some ⟨p,0,none⟩))) (h2:w.cell? ⟨q2,0,none⟩=some (.slice (some ⟨b,o,none⟩) n cb)) (h3:w.cell? ⟨b,o+k,none⟩=some (.int .u8 x)) :
 Calls Tryz.prog 180 #[.int .i64 k,.int .u32 q,.pointer (some ⟨q2,0,none⟩),.pointer (some ⟨q1,0,none⟩)] w fun e w'=>e=.returned (.tuple #[])∧w'=w.drew.setCell ⟨g,q,none⟩ (.int .u8 x):=by
 have hmx:Tryz.prog.follows .mixedOrders=true:=by kernel_rfl
 obtain⟨⟨c0,c1,c2⟩,-⟩:=cells379 h.hp;have hg:=h.cell hq;have hf:=h.froz q;have hki:(k:Int)<(n:Int):=by omega
 have hqi:(q:Int)<(N:Int):=by omega
 clear h;go_enter Tryz.func180,Tryz.ntmps180;go_wp2_with fail;refine wp_region_still_tail 10 hmx (by kernel_rfl) ?_;simp only[List.take_succ_cons,List.take_zero,List.drop_succ_cons,List.drop_zero]
 repeat still_step
 refine wpStill_nil ?_;change wpList _ _ _ _ _ w.drew;go_wp2
 go_end0
 exact⟨rfl,rfl⟩
theorem MemAt.copied (h:MemAt w p g c N vt d logs tou) {q:Nat} {v:Value} {b:List Nat} (hb:Bytes w v b) (hfit:q+b.length≤N) :
 ∃W',(Builtin.copy_ #[24,24] 3 #[.slice (some ⟨g,q,none⟩) (N - q) (c - q),v]).run Tryz.prog w=.ok (goInt b.length) W'∧MemAt W' p g c N vt (d.take q++b++d.drop (q+b.length)) logs tou∧Fr w W' (fun x=>x=g) (fun x=>x=g):=by
 rcases h.row.2 with⟨e1,-⟩|⟨g',cap,cur,e1,hg0,hg',hn,hm,hs,ht⟩
 ·cases e1
 cases e1;have hlen:=h.len;refine⟨_,copyB (N:=N) (c:=c) hg' hb hfit (by omega),?_,⟨rfl,rfl,rfl,by simp[World.setRow],fun k hk hne=>setRow_other _ _ _ _ hne,fun _ h=>.inl h⟩⟩;have hfr:Fr w (w.setRow g (cur.toList.take q++encN .u8 b++cur.toList.drop (q+(encN .u8 b).length)).toArray) (fun x=>x=g) (fun x=>x=g):=⟨rfl,rfl,rfl,by simp[World.setRow],fun k hk hne=>setRow_other _ _ _ _ hne,fun _ h=>.inl h⟩;refine⟨hfr.row h.hp (fun e=>h.gp e.symm),⟨by rw[encN_length];simp;omega,.inr ⟨g,c,_,rfl,hg0,setRow_heap w g cur _ 5 _ hg',hn,hm,?_,?_⟩⟩,own_fr h.tr hfr (fun x e e2=>h.gt (by rw[e,e2])),by simp;omega,h.k,fun y hy=>?_,h.tl⟩
 ·have:=encN_length .u8 b
  simp;omega
 ·have hl2:(encN .u8 b).length=b.length:=encN_length _ _
  have:=mspl_take cur.toList (encN .u8 b) (q:=q) (N:=N) (by omega) (by simp;omega);simp only[Nat.mul_one]at ht⊢;rw[this,ht,hl2,encN_append,encN_append];simp[encN,List.map_take,List.map_drop]
 ·rcases List.mem_append.1 hy with hy|hy
  ·rcases List.mem_append.1 hy with hy|hy
   ·exact h.lt y (List.mem_of_mem_take hy)
   ·exact hb.2 y hy
  ·exact h.lt y (List.mem_of_mem_drop hy)
theorem write_any (h:MemAt w p g c N vt d logs tou) {a:Nat} {v:Value} {b:List Nat} (ha:a<4294967296) (hb:Bytes w v b) (hl:b.length≤65536) (hv:0<b.length→∀x,v.ownBlock=some x→x≠p∧x≠g∧vt.ownBlock≠some x) :
 Calls Tryz.prog 154 #[.pointer (some ⟨p,0,none⟩),.int .u32 a,v] w fun e w'=>e=.returned (.tuple #[])∧∃vt',MemAt w' p g c N vt' (writeN d a b) logs (touL logs tou (touN N a b.length true))∧Fr w w' (memF p g vt) (memF p g vt'):=by
 have hmx:Tryz.prog.follows .mixedOrders=true:=by kernel_rfl
 obtain⟨W1,hW1⟩:∃W1,W1=(w.alloc (.cells #[.pointer (some ⟨p,0,none⟩)] 83)).alloc (.cells #[v] 24):=⟨_,rfl⟩;have HB1:=Lib.hid (show Below w.heap.size w W1 from by rw[hW1];exact Bel.al (Bel.new _ _) _);have hg1:W1.heap[w.heap.size]?=some (.cells #[.pointer (some ⟨p,0,none⟩)] 83 (0,0)):=by rw[hW1,Below.heap_alloc _ _ _ (by simp)];exact heap_alloc_new _ _
 have hg2:W1.heap[w.heap.size+1]?=some (.cells #[v] 24 (0,0)):=by
  rw[hW1];have:=heap_alloc_new (w.alloc (.cells #[.pointer (some ⟨p,0,none⟩)] 83)) (.cells #[v] 24)
  simpa using this
 have hlt1:=(Array.getElem?_eq_some_iff.1 hg1).1;have hlt2:=(Array.getElem?_eq_some_iff.1 hg2).1;have HBy:=Lib.hid (hb.below HB1.out);have HM:=Lib.hid h;have HM1:=Lib.hid (h.below HB1.out);obtain⟨va,vc,rfl,hvn,hvm,hva,hvp⟩:=hb.opened;have hc1:=cell_of_row W1 w.heap.size 0 _ _ _ hg1;have hc2:=cell_of_row W1 (w.heap.size+1) 0 _ _ _ hg2;go_enter Tryz.func154,Tryz.ntmps154;go_wp2_with fail;rw[←hW1];refine(plain_any HM1.out a b.length ha hl).mono ?_;rintro e w2⟨rfl,hb2⟩;have HB2:=Lib.hid (Bel.tr HB1.out hb2);have HM2:=Lib.hid (HM1.out.below hb2);have HBy2:=Lib.hid (HBy.out.below hb2);have k1:=(hb2.block _ hlt1).trans hg1;have k2:=(hb2.block _ hlt2).trans hg2;have d1:=cell_of_row w2 w.heap.size 0 _ _ _ k1;have d2:=cell_of_row w2 (w.heap.size+1) 0 _ _ _ k2;have HS2:=Lib.hid hb2.size;by_cases hpl:logs=false∧a%N+b.length≤N
 ·obtain⟨rfl,hpl⟩:=hpl
  have HPl:=Lib.hid hpl;rw[show(!false&&decide (a%N+b.length≤N))=true from by simp[hpl]];clear hpl;obtain⟨⟨c0,c1,c2⟩,-⟩:=cells379 HM2.out.hp;have HP:=Lib.hid ((place_any (HM2.out.below (Below.refl _ _).drew) a ha).mono (R':=fun e w'=>e=.returned (.int .u32 (a%N:Nat))∧w'=w2.drew) (fun e w' h=>⟨h.1,h.2.symm⟩));have hN:=HM2.out.sizes.1;have hq:a%N<N:=Nat.mod_lt _ (by omega)
  have HWp:=Lib.hid (show writeN d a b=d.take (a%N)++b++d.drop (a%N+b.length)from by
   have:=writeTo_plain d a b (by rw[HM.out.len];exact HPl.out) b.length (Nat.le_refl _);rw[HM.out.len,List.take_length]at this
   exact this)
  obtain⟨W3,hrun,hm3,hf3⟩:=(HM2.out.below (Below.refl _ _).drew).copied (HBy2.out.below (Below.refl _ _).drew) HPl.out;rw[←HWp.out]at hm3;have HM3:=Lib.hid hm3;have HF3:=Lib.hid hf3;have HR:=Lib.hid hrun;clear hm3 hf3 hrun;generalize a%N=q at*;have hqi:(q:Int)≤(N:Int):=by omega
  have hq0:(0:Int)≤(q:Int):=by omega
  have hcN:N≤c:=by
   rcases HM.out.row.2 with⟨e1,-⟩|⟨g',cap,cur,e1,hg0,hg',hn,hm,hs,ht⟩
   ·cases e1
   ·cases e1;exact hn
  have hcq:¬c=q:=by omega
  clear h hv hb hvp hg1 hg2 hlt1 hlt2 hc1 hc2 k1 k2 hb2 hW1 hvn hva hl;go_wp2_with fail;refine wp_region_still_tail 9 hmx (by kernel_rfl) ?_;simp only[List.take_succ_cons,List.take_zero,List.drop_succ_cons,List.drop_zero]
  repeat still_step
  still_call (HP.out)
  repeat still_step
  refine wpStill_nil ?_;change wpList _ _ _ _ _ w2.drew;refine wpList_copy_runI w2.drew (o:=⟨some 20,.call {callee:=.builtin .copy,args:=#[.tmp 18,.tmp 19],argTypes:=#[24,24]},_,_,_,none⟩) rfl (.tmp 18) (.tmp 19) 24 24 rfl (.slice (some ⟨g,q,none⟩) (N - q) (c - q)) (.slice va b.length vc) (by simp[Act.eval,Act.put];try omega) (by simp[Act.eval,Act.put]) HR.out ?_;go_wp2
  (try simp only[Exit.inBlock,Exit.then])
  refine bodyPost_ret (results_none rfl _ _ _) rfl ?_;exact⟨rfl,vt,HM3.out,(Fr.of HB2.out (memF p g vt)).trans (((Fr.refl w2 (memF p g vt)).drew).trans (HF3.out.mono (fun i e=>.inr (.inl e)) (fun i e=>.inl e)))⟩
 ·rw[show(!logs&&decide (a%N+b.length≤N))=false from by
   cases logs
   ·simp at hpl⊢;omega
   ·rfl]
  have HV:=Lib.hid hv;have HVp:=Lib.hid hvp
  have HEa:=Lib.hid (each_any 180 (.pointer (some ⟨w.heap.size+1,0,none⟩)) (.pointer (some ⟨w.heap.size,0,none⟩)) (fun _=>False) (fun x=>(x=w.heap.size∨x=w.heap.size+1)∨(0<b.length∧(Value.slice va b.length vc).ownBlock=some x)∧x<w.heap.size)
   (fun _ W=>(W.heap[w.heap.size]?=some (.cells #[.pointer (some ⟨p,0,none⟩)] 83 (0,0))∧W.heap[w.heap.size+1]?=some (.cells #[.slice va b.length vc] 24 (0,0)))∧∀x,(0<b.length∧(Value.slice va b.length vc).ownBlock=some x)→x<w.heap.size→W.heap[x]?=w.heap[x]?)
   (fun k=>writeTo d a b k) true b.length a callFunc472 hl ha HM2.out
   (fun x hx=>by
    have hps:=HM.out.plt;have hsz:=HB2.out.size
    have htl:∀y,vt.ownBlock=some y→y<w.heap.size:=fun y e=>by
     rcases HM.out.tr.2 with⟨e1,-⟩|⟨g',cap,cur,e1,-,hg',-⟩
     ·rw[e1]at e;cases e
     ·rw[e1]at e;cases e
      exact(Array.getElem?_eq_some_iff.1 hg').1
    rcases hx with(rfl|rfl)|⟨hx,hx2⟩
    ·exact⟨by have:=HS2.out;omega,by omega,fun e=>by have:=htl _ e;omega⟩
    ·exact⟨by have:=HS2.out;omega,by omega,fun e=>by have:=htl _ e;omega⟩
    ·exact⟨by omega,(HV.out hx.1 x hx.2).1,(HV.out hx.1 x hx.2).2.2⟩)
   (fun k W W' hJ hs hR=>⟨⟨(hR _ (.inl (.inl rfl))).trans hJ.1.1,(hR _ (.inl (.inr rfl))).trans hJ.1.2⟩,fun x hx hx2=>(hR x (.inr ⟨hx,hx2⟩)).trans (hJ.2 x hx hx2)⟩)
   ⟨⟨k1,k2⟩,fun x hx hx2=>HB2.out.block x hx2⟩
   (fun k hk W u t hm hJ hs hu=>by
    have hN:=hm.sizes.1;have hq:(a+k)%N<N:=Nat.mod_lt _ (by omega);obtain⟨bb,off,rfl,hbb,hcc⟩:=HVp.out (by omega);have h3:W.cell? ⟨bb,off+k,none⟩=some (.int .u8 (b.getD k 0:Nat)):=(World.cell?_of_block (hJ.2 bb ⟨by omega,rfl⟩ hbb)).trans (hcc k hk);refine(write1_any hm hk hq (cell_of_row W _ 0 _ _ _ hJ.1.1) (cell_of_row W _ 0 _ _ _ hJ.1.2) h3).mono ?_;rintro e W'⟨rfl,rfl⟩;have hgl:=HM.out.glt
    have hx8:b.getD k 0<256:=by
     rw[List.getD_eq_getElem?_getD,List.getElem?_eq_getElem hk];exact HBy.out.2 _ (List.getElem_mem hk)
    have hmd:=(hm.below (Below.refl _ _).drew).put hq (x:=b.getD k 0) hx8;refine⟨rfl,?_,⟨⟨(Below.heap_setCell _ _ _ _ (by show w.heap.size≠g;omega)).trans hJ.1.1,(Below.heap_setCell _ _ _ _ (by show w.heap.size+1≠g;omega)).trans hJ.1.2⟩,fun x hx hx2=>(Below.heap_setCell _ _ _ _ (by show x≠g;exact(HV.out hx.1 x hx.2).2.1)).trans (hJ.2 x hx hx2)⟩,?_⟩
    ·have hl':=hm.len
     show MemAt _ p g c N u (putN (writeTo d a b k) (a+k) (b.getD k 0)) logs t
     unfold putN;rw[hl'];exact hmd
    ·exact((Fr.refl W (fun b=>b=g∨False)).drew).trans (Fr.setCell W.drew (F:=fun b=>b=g∨False) (a:=⟨g,_,none⟩) (.inl rfl) _)))
  clear hv hvp hb h k1 k2 hpl hb2 hg1 hg2 hlt1 hlt2 hc1 hc2;go_wp2_with fail;refine HEa.out.mono ?_;rintro e w3⟨rfl,vt',he⟩;have HF:=Lib.hid he;clear he;go_wp2_with fail
  go_end0
  exact⟨rfl,vt',HF.out.m,HF.out.out HB2.out (fun b h=>h.elim)⟩
end
def readV (d:List Nat) (a n k:Nat):List Nat:=(List.range n).map fun i=>loadX d a k i
theorem readV_length (d:List Nat) (a n k:Nat):(readV d a n k).length=n:=by simp[readV]
theorem readV_zero (d:List Nat) (a n:Nat):readV d a n 0=List.replicate n 0:=by
 apply List.ext_getElem
 ·simp[readV]
 ·intro i h1 h2
  simp[readV,loadX]
theorem readV_set (d:List Nat) (a n:Nat) {k:Nat} (hk:k<n):(readV d a n k).set k (byteAt d (a+k))=readV d a n (k+1):=by
 apply List.ext_getElem
 ·simp[readV]
 ·intro i h1 h2
  rw[List.getElem_set];simp only[readV,List.getElem_map,List.getElem_range,loadX];by_cases h:k=i
  ·subst h;simp
  ·rw[if_neg h]
   by_cases h3:i<k
   ·rw[if_pos h3,if_pos (by omega)]
   ·rw[if_neg h3,if_neg (by omega)]
theorem readV_all (d:List Nat) (a n:Nat):readV d a n n=bytesN d a n:=by
 apply List.ext_getElem
 ·simp[readV,bytesN]
 ·intro i h1 h2
  have:i<n:=by simpa[readV]using h1
  simp[readV,bytesN,loadX,this]
section
variable {w:World} {p g c N:Nat} {vt:Value} {d:List Nat} {logs:Bool} {tou:List (Nat×Bool)}
theorem read1_any (h:MemAt w p g c N vt d logs tou) {k q q1 q2 n cb b:Nat} (hk:k<n) (hq:q<N) {x:Value} (h1:w.cell? ⟨q1,0,none⟩=some (.pointer (some ⟨p,0,none⟩))) (h2:w.cell? ⟨q2,0,none⟩=some (.slice (some ⟨b,0,none⟩) n cb)) (h3:w.cell? ⟨b,k,none⟩=some x) (h4:w.frozen? ⟨b,k,none⟩=false) :
 Calls Tryz.prog 181 #[.int .i64 k,.int .u32 q,.pointer (some ⟨q1,0,none⟩),.pointer (some ⟨q2,0,none⟩)] w fun e w'=>e=.returned (.tuple #[])∧w'=w.drew.setCell ⟨b,k,none⟩ (.int .u8 (d.getD q 0:Nat)):=by
 have hmx:Tryz.prog.follows .mixedOrders=true:=by kernel_rfl
 obtain⟨⟨c0,c1,c2⟩,-⟩:=cells379 h.hp;have hg:=h.cell hq;have hki:(k:Int)<(n:Int):=by omega
 have hqi:(q:Int)<(N:Int):=by omega
 clear h;generalize d.getD q 0=y at*;go_enter Tryz.func181,Tryz.ntmps181;go_wp2_with fail;refine wp_region_still_tail 10 hmx (by kernel_rfl) ?_;simp only[List.take_succ_cons,List.take_zero,List.drop_succ_cons,List.drop_zero]
 repeat still_step
 refine wpStill_nil ?_;change wpList _ _ _ _ _ w.drew;go_wp2
 go_end0
 exact⟨rfl,rfl⟩
theorem mread_any (h:MemAt w p g c N vt d logs tou) {a n:Nat} (ha:a<4294967296) (hn:n≤65536) :
 Calls Tryz.prog 155 #[.pointer (some ⟨p,0,none⟩),.int .u32 a,.int .i64 n] w fun e w'=>∃r vt',e=.returned (.slice (some ⟨r,0,none⟩) n n)∧w.heap.size≤r∧w'.ownsRow w.heap.size 5 1 (.slice (some ⟨r,0,none⟩) n n) n (encN .u8 (bytesN d a n))∧MemAt w' p g c N vt' d logs (touL logs tou (touN N a n false))∧Fr w w' (memF p g vt) (memF p g vt'):=by
 have hmx:Tryz.prog.follows .mixedOrders=true:=by kernel_rfl
 have hn0:(0:Int)≤(n:Int):=by omega
 have hnm:(n:Int)≤140737488355328:=by omega
 obtain⟨i5,hi5,x0,x1,x2⟩:=info_parts inf5;have HM:=Lib.hid h;obtain⟨Wa,hWa⟩:∃Wa,Wa=w.alloc (.cells #[.pointer (some ⟨p,0,none⟩)] 83):=⟨_,rfl⟩;have HBa:=Lib.hid (show Below w.heap.size w Wa from by rw[hWa];exact Bel.new _ _);have HHa:=Lib.hid (show Wa.heap[w.heap.size]?=some (.cells #[.pointer (some ⟨p,0,none⟩)] 83 (0,0))from by rw[hWa];exact heap_alloc_new _ _);have HSa:=Lib.hid (show Wa.heap.size=w.heap.size+1 from by rw[hWa];simp);have HWa:=Lib.hid hWa;clear h hWa;go_enter Tryz.func155,Tryz.ntmps155
 go_wp2_with(at_make;rw[←HWa.out];refine wpList_make_full _ rfl _ _ 24 rfl Wa.heap.size 5 i5 (.int .u8 0) 1 Tryz.underlying24 hi5 x0 x1 .i64 .i64 _ _ n rfl rfl rfl rfl (by rw[x2];omega) (by unfold maxLen;omega) (Nat.le_refl _) ?_;intro w9 ho9 hg9;rw[made_bytes]at ho9;have hb9:=below_of_none hg9;have k9:=(hb9.block _ (show w.heap.size<Wa.heap.size by rw[HSa.out];omega)).trans HHa.out;have d9:=cell_of_row w9 w.heap.size 0 _ _ _ k9;have hlt9:w.heap.size<w9.heap.size:=(Array.getElem?_eq_some_iff.1 k9).1;have HK9:=Lib.hid k9;have HO9:=Lib.hid ho9;have HB9:=Lib.hid hb9;clear ho9 hg9 hb9 k9)
 obtain⟨W1,hW1⟩:∃W1,W1=w9.alloc (.cells #[.slice (some ⟨Wa.heap.size,0,none⟩) n n] 24):=⟨_,rfl⟩;have hb1:Below w9.heap.size w9 W1:=by rw[hW1];exact Bel.new _ _
 have HB1:=Lib.hid (show Below w.heap.size w W1 from Bel.tr (Bel.tr HBa.out HB9.out) hb1);have hh1:W1.heap[w9.heap.size]?=some (.cells #[.slice (some ⟨Wa.heap.size,0,none⟩) n n] 24 (0,0)):=by rw[hW1];exact heap_alloc_new _ _
 have k1:=(hb1.block _ hlt9).trans HK9.out;have HO1:=Lib.hid (own_below HO9.out hb1);have HM1:=Lib.hid (HM.out.below HB1.out);have hs9:=HB9.out.size;have hlt1:=(Array.getElem?_eq_some_iff.1 hh1).1;rw[←hW1];clear hW1 d9;refine(plain_any HM1.out a n ha hn).mono ?_;rintro e w2⟨rfl,hb2⟩;have HB2:=Lib.hid (Bel.tr HB1.out hb2);have HM2:=Lib.hid (HM1.out.below hb2);have HO2:=Lib.hid (own_below HO1.out hb2);have j1:=(hb2.block _ (show w.heap.size<W1.heap.size by omega)).trans k1;have j2:=(hb2.block _ hlt1).trans hh1;have d1:=cell_of_row w2 w.heap.size 0 _ _ _ j1;have d2:=cell_of_row w2 w9.heap.size 0 _ _ _ j2;have HS2:=Lib.hid hb2.size;obtain⟨cur,q1,q2,q3,q4,q5,q6⟩:=own_cur HO2.out;have hcur:cur=encN .u8 (readV d a n 0):=by rw[readV_zero,←q5,List.take_of_length_le (by omega)]
 subst hcur;have hs1:=HBa.out.size;have hsa:=HSa.out;have hlt9':=(Array.getElem?_eq_some_iff.1 q1).1
 have hne:Wa.heap.size≠w9.heap.size:=by
  have:=(Array.getElem?_eq_some_iff.1 (own_cur HO9.out).choose_spec.1).1;omega
 have HFin:=Lib.hid (fun (W:World) (hW:W.heap[Wa.heap.size]?=some (.cells (encN .u8 (bytesN d a n)).toArray 5 (0,0)))=>(⟨by rw[encN_length];simp[bytesN],.inr ⟨Wa.heap.size,n,_,rfl,hs1,hW,Nat.le_refl _,by unfold maxLen;omega,by simp[encN_length,bytesN],by rw[List.take_of_length_le];simp[encN_length,bytesN]⟩⟩:W.ownsRow w.heap.size 5 1 (.slice (some ⟨Wa.heap.size,0,none⟩) n n) n (encN .u8 (bytesN d a n))));by_cases hpl:logs=false∧a%N+n≤N
 ·obtain⟨rfl,hpl⟩:=hpl
  have HPl:=Lib.hid hpl;rw[show(!false&&decide (a%N+n≤N))=true from by simp[hpl]];obtain⟨⟨c0,c1,c2⟩,-⟩:=cells379 HM2.out.hp;have HP:=Lib.hid ((place_any (HM2.out.below (Below.refl _ _).drew) a ha).mono (R':=fun e w'=>e=.returned (.int .u32 (a%N:Nat))∧w'=w2.drew) (fun e w' h=>⟨h.1,h.2.symm⟩));have hN:=HM2.out.sizes.1;have hq:a%N<N:=Nat.mod_lt _ (by omega);have hsz5:(Tryz.prog.info? 5).map (fun x=>x.size)=some 1:=by kernel_rfl
  have hR:=run_copy_row (P:=Tryz.prog) w2.drew 24 24 3 5 Wa.heap.size 0 n n ⟨g,a%N,none⟩ (N - a%N) (c - a%N) (encN .u8 (readV d a n 0)).toArray 5 (encN .u8 (bytesN d a n)) Tryz.underlying24 hsz5 q1 (by rw[encN_length];simp only[bytesN,List.length_map,List.length_range];exact(Nat.min_eq_right (by omega)).symm) (fun j x hj=>by
   have hjl:j<n:=by have:=(List.getElem?_eq_some_iff.1 hj).1;rw[encN_length]at this;simpa[bytesN]using this
   rw[encN_at .u8 _ j (by simpa[bytesN]using hjl)]at hj;rw[Addr.add_mid];refine((HM2.out.below (Below.refl _ _).drew).cell (q:=a%N+j) (by omega)).trans ?_;rw[←hj];congr 2
   have:(a+j)%N=a%N+j:=by
    rw[Nat.add_mod,Nat.mod_eq_of_lt (show a%N+j%N<N by have:=Nat.mod_le j N;omega),Nat.mod_eq_of_lt (show j<N by omega)]
   simp[bytesN,List.getD_eq_getElem?_getD,hjl,byteAt,HM2.out.len,this]) (by rw[encN_length];simp[bytesN,encN_length,readV_length]) (encN_one .u8 _)
  rw[show((encN .u8 (readV d a n 0)).toArray.toList.take 0++encN .u8 (bytesN d a n)++(encN .u8 (readV d a n 0)).toArray.toList.drop (0+(encN .u8 (bytesN d a n)).length))=encN .u8 (bytesN d a n)from by
   rw[List.take_zero,List.nil_append,List.drop_of_length_le (by simp[encN_length,bytesN,readV_length]),List.append_nil]]at hR
  obtain⟨W3,hW3⟩:∃W3,W3=w2.drew.setRow Wa.heap.size (encN .u8 (bytesN d a n)).toArray:=⟨_,rfl⟩;have hh3:W3.heap[Wa.heap.size]?=some (.cells (encN .u8 (bytesN d a n)).toArray 5 (0,0)):=by rw[hW3];exact setRow_heap _ _ _ _ _ _ q1
  have hf3:Fr w2 W3 (fun x=>x=Wa.heap.size) (fun x=>x=Wa.heap.size):=by rw[hW3];exact⟨rfl,rfl,rfl,by simp[World.setRow],fun k hk hne=>setRow_other w2.drew _ _ _ hne,fun _ h=>.inl h⟩
  rw[←hW3]at hR;have HR:=Lib.hid hR;have HH3:=Lib.hid hh3;have HF3:=Lib.hid hf3;have d3:=cell_of_row W3 w9.heap.size 0 _ _ _ (hf3.row j2 (fun e=>hne e.symm));have hgl:=HM.out.glt;have hpl':=HM.out.plt
  have htl:∀y,vt.ownBlock=some y→y<w.heap.size:=fun y e=>by
   rcases HM.out.tr.2 with⟨e1,-⟩|⟨g',cap,cur,e1,-,hg',-⟩
   ·rw[e1]at e;cases e
   ·rw[e1]at e;cases e
    exact(Array.getElem?_eq_some_iff.1 hg').1
  have HM3:=Lib.hid (HM2.out.fr hf3 (by
   rintro b (rfl|rfl|e) hb
   ·omega
   ·omega
   ·have:=htl _ e;omega))
  have HFo:=Lib.hid (show Fr w W3 (memF p g vt) (memF p g vt)from⟨hf3.os.trans HB2.out.os,hf3.tape.trans HB2.out.tape,hf3.output.trans HB2.out.output,Nat.le_trans HB2.out.size hf3.size,fun k hk hn=>(hf3.block k (by have:=HB2.out.size;omega) (by show k≠Wa.heap.size;omega)).trans (HB2.out.block k hk),fun _ h=>.inl h⟩)
  have hcN:N≤c:=by
   rcases HM.out.row.2 with⟨e1,-⟩|⟨g',cap,cur,e1,hg0,hg',hn,hm,hs,ht⟩
   ·cases e1
   ·cases e1;exact hn
  generalize a%N=q at*;have hqi:(q:Int)≤(N:Int):=by omega
  have hq0:(0:Int)≤(q:Int):=by omega
  have hcq:¬c=q:=by omega
  clear hpl hb2 j1 j2 k1 hh1 q1 q2 q3 q4 q5 q6 hb1 hs1 hsa hlt9' hne hs9 hlt1 hW3 hR hh3 hf3 htl hgl hpl';go_wp2_with fail;refine wp_region_still_tail 9 hmx (by kernel_rfl) ?_;simp only[List.take_succ_cons,List.take_zero,List.drop_succ_cons,List.drop_zero]
  repeat still_step
  still_call (HP.out)
  repeat still_step
  refine wpStill_nil ?_;change wpList _ _ _ _ _ w2.drew;refine wpList_copy_runI w2.drew (o:=⟨some 23,.call {callee:=.builtin .copy,args:=#[.tmp 14,.tmp 22],argTypes:=#[24,24]},_,_,_,none⟩) rfl (.tmp 14) (.tmp 22) 24 24 rfl (.slice (some ⟨Wa.heap.size,0,none⟩) n n) (.slice (some ⟨g,q,none⟩) (N - q) (c - q)) (by simp[Act.eval,Act.put]) (by simp[Act.eval,Act.put];try omega) HR.out ?_;go_wp2;go_ret;exact⟨_,vt,rfl,HBa.out.size,HFin.out W3 HH3.out,HM3.out,HFo.out⟩
 ·rw[show(!logs&&decide (a%N+n≤N))=false from by
   cases logs
   ·simp at hpl⊢;omega
   ·rfl]
  have HEa:=Lib.hid (each_any 181 (.pointer (some ⟨w.heap.size,0,none⟩)) (.pointer (some ⟨w9.heap.size,0,none⟩)) (fun x=>x=Wa.heap.size) (fun x=>x=w.heap.size∨x=w9.heap.size∨x=Wa.heap.size)
   (fun k W=>(W.heap[w.heap.size]?=some (.cells #[.pointer (some ⟨p,0,none⟩)] 83 (0,0))∧W.heap[w9.heap.size]?=some (.cells #[.slice (some ⟨Wa.heap.size,0,none⟩) n n] 24 (0,0)))∧W.heap[Wa.heap.size]?=some (.cells (encN .u8 (readV d a n k)).toArray 5 (0,0)))
   (fun _=>d) false n a callFunc473 hn ha HM2.out
   (fun x hx=>by
    have hps:=HM.out.plt;have hss:=HS2.out
    have htl:∀y,vt.ownBlock=some y→y<w.heap.size:=fun y e=>by
     rcases HM.out.tr.2 with⟨e1,-⟩|⟨g',cap,cur,e1,-,hg',-⟩
     ·rw[e1]at e;cases e
     ·rw[e1]at e;cases e
      exact(Array.getElem?_eq_some_iff.1 hg').1
    rcases hx with rfl|rfl|rfl
    ·exact⟨by omega,by omega,fun e=>by have:=htl _ e;omega⟩
    ·exact⟨by omega,by omega,fun e=>by have:=htl _ e;omega⟩
    ·exact⟨by omega,by omega,fun e=>by have:=htl _ e;omega⟩)
   (fun k W W' hJ hs hR=>⟨⟨(hR _ (.inl rfl)).trans hJ.1.1,(hR _ (.inr (.inl rfl))).trans hJ.1.2⟩,(hR _ (.inr (.inr rfl))).trans hJ.2⟩)
   ⟨⟨j1,j2⟩,q1⟩
   (fun k hk W u t hm hJ hs hu=>by
    have hN:=hm.sizes.1;have hq:(a+k)%N<N:=Nat.mod_lt _ (by omega);have hkl:k<(encN .u8 (readV d a n k)).toArray.size:=(by simp[encN_length,readV_length,hk]);refine(read1_any hm hk hq (cell_of_row W _ 0 _ _ _ hJ.1.1) (cell_of_row W _ 0 _ _ _ hJ.1.2) ((cell_of_row W _ k _ _ _ hJ.2).trans (Array.getElem?_eq_getElem hkl)) (frozen_of_row W _ k _ _ hJ.2)).mono ?_;rintro e W'⟨rfl,rfl⟩;have hgl:=HM.out.glt;have hpl':=HM.out.plt;have e1:d.getD ((a+k)%N) 0=byteAt d (a+k):=(by unfold byteAt;rw[hm.len]);rw[e1];have hfr:Fr W (W.drew.setCell ⟨Wa.heap.size,k,none⟩ (.int .u8 (byteAt d (a+k)))) (fun b=>b=Wa.heap.size) (fun b=>b=Wa.heap.size):=((Fr.refl W (fun b=>b=Wa.heap.size)).drew).trans (Fr.setCell W.drew (F:=fun b=>b=Wa.heap.size) (a:=⟨Wa.heap.size,k,none⟩) rfl _);refine⟨rfl,hm.fr hfr ?_,⟨⟨(Below.heap_setCell _ _ _ _ (by show w.heap.size≠Wa.heap.size;omega)).trans hJ.1.1,(Below.heap_setCell _ _ _ _ (by show w9.heap.size≠Wa.heap.size;omega)).trans hJ.1.2⟩,?_⟩,hfr.mono (fun i hi=>.inr hi) (fun i hi=>.inl hi)⟩
    ·rintro b (rfl|rfl|e) hb
     ·omega
     ·omega
     ·exact hu _ (.inr (.inr hb)) e
    ·rw[←readV_set d a n hk,←encN_set]
     have:=heap_setCell_same W.drew Wa.heap.size k _ _ (.int .u8 (byteAt d (a+k))) hJ.2;rw[this]
     simp))
  clear hpl hb2 j1 j2 k1 hh1 q1 q2 q3 q4 q5 q6 hb1 hs1 hsa hlt9' hne hs9 hlt1;go_wp2_with fail;refine HEa.out.mono ?_;rintro e w3⟨rfl,vt',he⟩;have HF:=Lib.hid he;have d3:=cell_of_row w3 w9.heap.size 0 _ _ _ he.j.1.2;clear he d1 d2;go_wp2_with fail;go_ret;exact⟨_,vt',rfl,HBa.out.size,HFin.out w3 (by rw[←readV_all];exact HF.out.j.2),HF.out.m,HF.out.out HB2.out (fun b h=>by have:=HBa.out.size;omega)⟩
end
def LoadPost (d:List Nat) (logs:Bool) (tou:List (Nat×Bool)) (p g c N:Nat) (vt:Value) (a n:Nat) (w:World) (e:Ending) (w':World):Prop:=
 e=.returned (.int .u32 (loadN d a n))∧∃vt',MemAt w' p g c N vt' d logs (touL logs tou (touN N a n false))∧Fr w w' (memF p g vt) (memF p g vt')
def StorePost (d:List Nat) (logs:Bool) (tou:List (Nat×Bool)) (p g c N:Nat) (vt:Value) (a v n:Nat) (w:World) (e:Ending) (w':World):Prop:=
 e=.returned (.tuple #[])∧∃vt',MemAt w' p g c N vt' (storeN d a v n) logs (touL logs tou (touN N a n true))∧Fr w w' (memF p g vt) (memF p g vt')
section
variable {w:World} {p g c N:Nat} {vt:Value} {d:List Nat} {logs:Bool} {tou:List (Nat×Bool)}
theorem load1_mem (h:MemAt w p g c N vt d logs tou) {a:Nat} (ha:a<4294967296):Calls Tryz.prog 124 #[.pointer (some ⟨p,0,none⟩),.int .u32 a] w (LoadPost d logs tou p g c N vt a 1 w):=by
 have H:=Lib.hid (mload_any h ha (show 1≤4 by omega));clear h;go_enter Tryz.func124,Tryz.ntmps124;go_wp2_with fail;refine H.out.mono ?_;rintro e w'⟨rfl,hr⟩;have HR:=Lib.hid hr;clear hr;go_wp2_with fail;go_ret;exact⟨rfl,HR.out⟩
theorem load2_mem (h:MemAt w p g c N vt d logs tou) {a:Nat} (ha:a<4294967296):Calls Tryz.prog 125 #[.pointer (some ⟨p,0,none⟩),.int .u32 a] w (LoadPost d logs tou p g c N vt a 2 w):=by
 have H:=Lib.hid (mload_any h ha (show 2≤4 by omega));clear h;go_enter Tryz.func125,Tryz.ntmps125;go_wp2_with fail;refine H.out.mono ?_;rintro e w'⟨rfl,hr⟩;have HR:=Lib.hid hr;clear hr;go_wp2_with fail;go_ret;exact⟨rfl,HR.out⟩
theorem load4_mem (h:MemAt w p g c N vt d logs tou) {a:Nat} (ha:a<4294967296):Calls Tryz.prog 118 #[.pointer (some ⟨p,0,none⟩),.int .u32 a] w (LoadPost d logs tou p g c N vt a 4 w):=by
 have H:=Lib.hid (mload_any h ha (show 4≤4 by omega));clear h;go_enter Tryz.func118,Tryz.ntmps118;go_wp2_with fail;refine H.out.mono ?_;rintro e w'⟨rfl,hr⟩;have HR:=Lib.hid hr;clear hr;go_wp2_with fail;go_ret;exact⟨rfl,HR.out⟩
theorem store1_mem (h:MemAt w p g c N vt d logs tou) {a v:Nat} (ha:a<4294967296) (hv:v<4294967296):Calls Tryz.prog 126 #[.pointer (some ⟨p,0,none⟩),.int .u32 a,.int .u32 v] w (StorePost d logs tou p g c N vt a v 1 w):=by
 have H:=Lib.hid (store_any h ha hv (show 1≤4 by omega));clear h;go_enter Tryz.func126,Tryz.ntmps126;go_wp2_with fail;refine H.out.mono ?_;rintro e w'⟨rfl,hr⟩;have HR:=Lib.hid hr;clear hr;go_wp2_with fail
 go_end0
 exact⟨rfl,HR.out⟩
theorem store2_mem (h:MemAt w p g c N vt d logs tou) {a v:Nat} (ha:a<4294967296) (hv:v<4294967296):Calls Tryz.prog 127 #[.pointer (some ⟨p,0,none⟩),.int .u32 a,.int .u32 v] w (StorePost d logs tou p g c N vt a v 2 w):=by
 have H:=Lib.hid (store_any h ha hv (show 2≤4 by omega));clear h;go_enter Tryz.func127,Tryz.ntmps127;go_wp2_with fail;refine H.out.mono ?_;rintro e w'⟨rfl,hr⟩;have HR:=Lib.hid hr;clear hr;go_wp2_with fail
 go_end0
 exact⟨rfl,HR.out⟩
theorem store4_mem (h:MemAt w p g c N vt d logs tou) {a v:Nat} (ha:a<4294967296) (hv:v<4294967296):Calls Tryz.prog 48 #[.pointer (some ⟨p,0,none⟩),.int .u32 a,.int .u32 v] w (StorePost d logs tou p g c N vt a v 4 w):=by
 have H:=Lib.hid (store_any h ha hv (show 4≤4 by omega));clear h;go_enter Tryz.func48,Tryz.ntmps48;go_wp2_with fail;refine H.out.mono ?_;rintro e w'⟨rfl,hr⟩;have HR:=Lib.hid hr;clear hr;go_wp2_with fail
 go_end0
 exact⟨rfl,HR.out⟩
end
theorem touL_touL (logs:Bool) (t l m:List (Nat×Bool)):touL logs (touL logs t l) m=touL logs t (l++m):=by
 cases logs
 ·rfl
 ·unfold touL
  simp only[if_true];rw[←List.append_assoc,List.take_append (l₁:=t++l),List.take_append (l₁:=(t++l).take 65536),List.take_take,Nat.min_self,List.length_take];congr 1;by_cases h:(t++l).length≤65536
  ·rw[Nat.min_eq_right h]
  ·rw[Nat.min_eq_left (by omega),Nat.sub_self,show 65536 - (t++l).length=0 by omega]
def WritePost (d:List Nat) (logs:Bool) (tou:List (Nat×Bool)) (p g c N:Nat) (vt:Value) (a:Nat) (b:List Nat) (w:World) (e:Ending) (w':World):Prop:=
 e=.returned (.int .i64 0)∧∃vt',MemAt w' p g c N vt' (writeN d a b) logs (touL logs tou (touN N a b.length true))∧Fr w w' (memF p g vt) (memF p g vt')
section
variable {w:World} {p g c N:Nat} {vt:Value} {d:List Nat} {logs:Bool} {tou:List (Nat×Bool)}
theorem write_mem (h:MemAt w p g c N vt d logs tou) {a:Nat} {v:Value} {b:List Nat} (ha:a<4294967296) (hb:Bytes w v b) (hl:b.length≤4096) (hv:0<b.length→∀x,v.ownBlock=some x→x≠p∧x≠g∧vt.ownBlock≠some x) :
 Calls Tryz.prog 177 #[.pointer (some ⟨p,0,none⟩),.int .u32 a,v] w (WritePost d logs tou p g c N vt a b w):=by
 have H:=Lib.hid (write_any h ha hb (by omega) hv);have HMd:=Lib.hid (made_any h);obtain⟨va,vc,rfl,hvn,hvm,hva,hvp⟩:=hb.opened;have hli:¬(4096:Int)<(b.length:Int):=by omega
 clear h hb hvp hva hv;go_enter Tryz.func177,Tryz.ntmps177;go_wp2_with fail;refine HMd.out.mono ?_;rintro e w1⟨rfl,rfl⟩;go_wp2_with fail;refine H.out.mono ?_;rintro e w'⟨rfl,hr⟩;have HR:=Lib.hid hr;clear hr;go_wp2_with fail;go_ret;exact⟨rfl,HR.out⟩
def CopyPost (d:List Nat) (logs:Bool) (tou:List (Nat×Bool)) (p g c N:Nat) (vt:Value) (a x n:Nat) (w:World) (e:Ending) (w':World):Prop:=
 e=.returned (.int .i64 0)∧∃vt',MemAt w' p g c N vt' (writeN d a (bytesN d x n)) logs (touL logs tou (touN N x n false++touN N a n true))∧Fr w w' (memF p g vt) (memF p g vt')
theorem copy_mem (h:MemAt w p g c N vt d logs tou) {a x n:Nat} (ha:a<4294967296) (hx:x<4294967296) (hn:n≤4096) :
 Calls Tryz.prog 128 #[.pointer (some ⟨p,0,none⟩),.int .u32 a,.int .u32 x,.int .u32 n] w (CopyPost d logs tou p g c N vt a x n w):=by
 have HRd:=Lib.hid (mread_any h hx (show n≤65536 by omega));have HMd:=Lib.hid (made_any h);have HM:=Lib.hid h;have hli:¬(4096:Int)<(n:Int):=by omega
 have hw:IntKind.i64.wrap (n:Int)=(n:Int):=IntWalk.i64_in _ (by omega);clear h;go_enter Tryz.func128,Tryz.ntmps128;go_wp2_with fail;refine HMd.out.mono ?_;rintro e w1⟨rfl,rfl⟩;go_wp2_with fail;refine HRd.out.mono ?_;rintro e w2⟨r,v2,rfl,hr,hro,hm2,hf2⟩;have hbl:(bytesN d x n).length=n:=by simp[bytesN]
 have hby:Bytes w2 (.slice (some ⟨r,0,none⟩) n n) (bytesN d x n):=own_bytes hro (fun y hy=>by
  obtain⟨i,-,rfl⟩:=List.mem_map.1 hy
  exact byteAt_lt HM.out.lt _)
 have HW:=Lib.hid (write_any hm2 ha hby (by omega) (fun _ y e=>by
  have e':r=y:=by injection e
  subst e';have h1:=HM.out.plt;have h2:=HM.out.glt;refine⟨by omega,by omega,fun e3=>?_⟩
  exact own_apart hm2.tr hro (by decide) r e3 rfl))
 have HF2:=Lib.hid hf2;have HBl:=Lib.hid hbl;clear hm2 hro hf2 hby hbl;go_wp2_with fail;refine HW.out.mono ?_;rintro e w3⟨rfl,v3,hm3,hf3⟩;rw[touL_touL,HBl.out]at hm3;have HM3:=Lib.hid hm3;have HF3:=Lib.hid hf3;clear hm3 hf3;go_wp2_with fail;go_ret;exact⟨rfl,v3,HM3.out,HF2.out.trans HF3.out⟩
end
section
variable {w:World} {p g c N:Nat} {vt:Value} {d:List Nat} {logs:Bool} {tou:List (Nat×Bool)}
theorem MemAt.logged (h:MemAt w p g c N vt d logs tou) (on:Bool) :
 MemAt ((w.setCell ⟨p,1,none⟩ (.bool on)).setCell ⟨p,2,none⟩ (.slice none 0 0)) p g c N (.slice none 0 0) d on []∧Fr w ((w.setCell ⟨p,1,none⟩ (.bool on)).setCell ⟨p,2,none⟩ (.slice none 0 0)) (memF p g vt) (memF p g (.slice none 0 0)):=by
 have hfr:Fr w ((w.setCell ⟨p,1,none⟩ (.bool on)).setCell ⟨p,2,none⟩ (.slice none 0 0)) (fun x=>x=p) (fun x=>x=p):=(Fr.setCell w (F:=fun x=>x=p) (a:=⟨p,1,none⟩) rfl _).trans (Fr.setCell _ (F:=fun x=>x=p) (a:=⟨p,2,none⟩) rfl _);refine⟨⟨heap_setCell_same _ p 2 _ _ _ (heap_setCell_same w p 1 _ _ _ h.hp),own_fr h.row hfr (fun x e e2=>h.gp (by injection e with e;rw[←e2,←e])),World.ownsRow_nil _ _ _ _,h.len,h.k,h.lt,by simp⟩,hfr.mono (fun i e=>.inl e) (fun i e=>?_)⟩;rcases e with e|e|e
 ·exact .inl (.inl e)
 ·exact .inl (.inr (.inl e))
 ·cases e
theorem log_mem (h:MemAt w p g c N vt d logs tou) (on:Bool) :
 Calls Tryz.prog 44 #[.pointer (some ⟨p,0,none⟩),.bool on] w fun e w'=>e=.returned (.tuple #[])∧MemAt w' p g c N (.slice none 0 0) d on []∧Fr w w' (memF p g vt) (memF p g (.slice none 0 0)):=by
 have HMd:=Lib.hid (made_any h);have HL:=Lib.hid (h.logged on);obtain⟨⟨c0,c1,c2⟩,hf⟩:=cells379 h.hp;clear h;go_enter Tryz.func44,Tryz.ntmps44;go_wp2_with fail;refine HMd.out.mono ?_;rintro e w1⟨rfl,rfl⟩;go_wp2_with fail
 go_end0
 exact⟨rfl,HL.out⟩
theorem bytes_mem (h:MemAt w p g c N vt d logs tou) :
 Calls Tryz.prog 33 #[.pointer (some ⟨p,0,none⟩)] w fun e w'=>∃v,e=.returned v∧w'.ownsRow w.heap.size 5 1 v N (encN .u8 d)∧Below w.heap.size w w':=by
 have HMd:=Lib.hid (made_any h);have HM:=Lib.hid h;obtain⟨⟨c0,c1,c2⟩,hf⟩:=cells379 h.hp;clear h;go_enter Tryz.func33,Tryz.ntmps33;go_wp2_with fail;refine HMd.out.mono ?_;rintro e w1⟨rfl,rfl⟩;go_wp2_with fail;refine(cloneB_any _ N (encN .u8 d) (by have:=HM.out.sizes.2.1;omega) (encN_one .u8 d) w (Reads.own (own_base HM.out.row) (by decide))).mono ?_;rintro e w2⟨v,rfl,ho,hb⟩;obtain⟨va,vc,rfl,-⟩:=own_sl ho;have HO:=Lib.hid ho;have HB:=Lib.hid hb;clear ho hb c0 c1 c2 hf;go_wp2_with fail;go_ret;exact⟨_,rfl,HO.out,HB.out⟩
end
section
variable {w:World} {p g c N:Nat} {vt:Value} {d:List Nat} {logs:Bool} {tou:List (Nat×Bool)}
theorem clip_any {L vc:Nat} {va:Option Addr} (hL:L≤vc) (w:World) :
 Calls Tryz.prog 132 #[.slice va L vc] w fun e w'=>e=.returned (.slice va L L)∧w=w':=by
 go_enter Tryz.func132,Tryz.ntmps132;go_wp2_with fail;go_ret;exact⟨rfl,rfl⟩
theorem encT_one (l:List (Nat×Bool)):∀v∈encT l,v.oneCell'=true:=by
 induction l with
 | nil=>intro v h;cases h
 | cons x l ih=>
  intro v h;simp only[encT,List.mem_cons]at h;rcases h with rfl|rfl|h
  ·rfl
  ·rfl
  ·exact ih v h
def TouchedPost (d:List Nat) (logs:Bool) (tou:List (Nat×Bool)) (p g c N:Nat) (vt:Value) (w:World) (e:Ending) (w':World):Prop:=
 ∃va vc,vt=.slice va tou.length vc∧e=.returned (.slice va tou.length tou.length)∧w'.ownsRow 0 66 2 vt tou.length (encT tou)∧MemAt w' p g c N (.slice none 0 0) d logs []∧Fr w w' (fun x=>x=p) (fun x=>x=p)
theorem MemAt.emptied (h:MemAt w p g c N vt d logs tou) :
 MemAt (w.setCell ⟨p,2,none⟩ (.slice none 0 0)) p g c N (.slice none 0 0) d logs []∧(w.setCell ⟨p,2,none⟩ (.slice none 0 0)).ownsRow 0 66 2 vt tou.length (encT tou)∧Fr w (w.setCell ⟨p,2,none⟩ (.slice none 0 0)) (fun x=>x=p) (fun x=>x=p):=by
 have hfr:Fr w (w.setCell ⟨p,2,none⟩ (.slice none 0 0)) (fun x=>x=p) (fun x=>x=p):=Fr.setCell w (F:=fun x=>x=p) (a:=⟨p,2,none⟩) rfl _;exact⟨⟨heap_setCell_same w p 2 _ _ _ h.hp,own_fr h.row hfr (fun x e e2=>h.gp (by injection e with e;rw[←e2,←e])),World.ownsRow_nil _ _ _ _,h.len,h.k,h.lt,by simp⟩,own_fr h.tr hfr (fun x e e2=>h.pt (by rw[e,e2])),hfr⟩
theorem touched_mem (h:MemAt w p g c N vt d logs tou):Calls Tryz.prog 94 #[.pointer (some ⟨p,0,none⟩)] w (TouchedPost d logs tou p g c N vt w):=by
 have HMd:=Lib.hid (made_any h);have HE:=Lib.hid h.emptied;obtain⟨⟨c0,c1,c2⟩,hf⟩:=cells379 h.hp
 have hle:∃va vc,vt=.slice va tou.length vc∧tou.length≤vc:=by
  rcases h.tr.2 with⟨e1,e2⟩|⟨g',cap,cur,e1,-,hg',hn,-⟩
  ·exact⟨none,0,by rw[e1,e2],by omega⟩
  ·exact⟨_,cap,e1,hn⟩
 obtain⟨va,vc,rfl,hle⟩:=hle;clear h;obtain⟨L,hL⟩:∃L,L=tou.length:=⟨_,rfl⟩;rw[←hL]at c2 hle HE;unfold TouchedPost;rw[←hL];clear hL;go_enter Tryz.func94,Tryz.ntmps94;go_wp2_with fail;refine HMd.out.mono ?_;rintro e w1⟨rfl,rfl⟩;go_wp2_with fail;refine(clip_any hle w).mono ?_;rintro e w1⟨rfl,rfl⟩;go_wp2_with fail;go_ret;exact⟨va,vc,rfl,rfl,HE.out.2.1,HE.out.1,HE.out.2.2⟩
end
theorem run_b379 (a:Option Addr) (n c:Nat) (w:World):(Instr.build 154 #[(0,.slice a n c)]).run Tryz.prog w=.ok (.agg #[.slice a n c,.bool false,.slice none 0 0]) w:=by kernel_rfl
theorem and_pred_pow {N:Nat} (h:∃k,8≤k∧k≤16∧N=2 ^ k):bits .and .i64 (N:Int) ((N:Int) - 1)=0:=by
 obtain⟨k,h8,h16,rfl⟩:=h;have:k=8∨k=9∨k=10∨k=11∨k=12∨k=13∨k=14∨k=15∨k=16:=by omega
 rcases this with rfl|rfl|rfl|rfl|rfl|rfl|rfl|rfl|rfl<;>decide
def FromPost (d:List Nat) (w:World) (e:Ending) (w':World):Prop:=
 ∃p g c,e=.returned (.tuple #[.pointer (some ⟨p,0,none⟩),.int .i64 0])∧w.heap.size≤p∧w.heap.size≤g∧MemAt w' p g c d.length (.slice none 0 0) d false []∧Below w.heap.size w w'
theorem from_mem {w:World} {v:Value} {d:List Nat} (hb:Bytes w v d) (hk:∃k,8≤k∧k≤16∧d.length=2 ^ k):Calls Tryz.prog 43 #[v] w (FromPost d w):=by
 have hf:=run_b379;have hand:=and_pred_pow hk;have HBy:=Lib.hid hb
 have hN:256≤d.length∧d.length≤65536:=by
  obtain⟨k,h8,h16,hk⟩:=hk;have:k=8∨k=9∨k=10∨k=11∨k=12∨k=13∨k=14∨k=15∨k=16:=by omega
  rcases this with rfl|rfl|rfl|rfl|rfl|rfl|rfl|rfl|rfl<;>rw[hk]<;>decide
 have HK:=Lib.hid hk;have HRd:=Lib.hid hb.1;obtain⟨va,vc,rfl,hvn,hvm,hva,hvp⟩:=hb.opened;unfold FromPost;obtain⟨N,hN1⟩:∃N,N=d.length:=⟨_,rfl⟩;rw[←hN1]at hand hN HBy HRd⊢;have h1:¬(N:Int)<256:=by omega
 have h2:¬(65536:Int)<(N:Int):=by omega
 have hw:IntKind.i64.wrap ((N:Int) - 1)=(N:Int) - 1:=IntWalk.i64_in _ (by omega);have HN:=Lib.hid hN;have HN1:=Lib.hid hN1;clear hb hk hvp hva hvn hN1 hN;go_enter Tryz.func43,Tryz.ntmps43;go_wp2_with fail;refine(cloneB_any _ N (encN .u8 d) (by have:=HN.out;omega) (encN_one .u8 d) w HRd.out).mono ?_;rintro e w2⟨v,rfl,ho,hb2⟩;obtain⟨g,cp,rfl,hnc,hcm,hg,-⟩:=own_form (own_base ho) (by have:=HN.out;omega);have hgb:w.heap.size≤g:=(ho.lt g rfl).1;have HO:=Lib.hid ho;have HB:=Lib.hid hb2;clear ho hb2 h1 h2;go_wp2_with fail;go_ret2;refine⟨w2.heap.size,g,cp,rfl,HB.out.size,hgb,⟨heap_alloc_new _ _,own_base (own_below HO.out (Bel.new _ _)),World.ownsRow_nil _ _ _ _,HN1.out.symm,?_,HBy.out.2,by simp⟩,HB.out.alloc HB.out.size _⟩;rw[HN1.out];exact HK.out
section
variable {w:World} {b:Nat} {cs:Array Value}
theorem mpop_any (h:w.heap[b]?=some (.cells cs 85 (0,0))) {g n cap:Nat} {x:Int} (hs:cs[69]?=some (.slice (some ⟨g,0,none⟩) (n+1) cap)) (hc:n+1≤cap) (hn:n≤65536) (hx:w.cell? ⟨g,n,none⟩=some (.int .u32 x)) :
 Calls Tryz.prog 119 #[.pointer (some ⟨b,0,none⟩)] w fun e w'=>e=.returned (.int .u32 x)∧w'=w.setCell ⟨b,69,none⟩ (.slice (some ⟨g,0,none⟩) n cap):=by
 have h1:=(cell_of_row w b 69 _ _ _ h).trans hs;have hf:=frozen_of_row w b 69 _ _ h;have e1:(((n+1:Nat):Int)) - 1=(n:Int):=by omega
 have hw:IntKind.i64.wrap (n:Int)=(n:Int):=IntWalk.i64_in _ (by omega);have hlt:(n:Int)<((n+1:Nat):Int):=by omega
 have hle:(n:Int)≤(cap:Int):=by omega
 clear h hs;go_enter Tryz.func119,Tryz.ntmps119;go_wp2_with fail;go_ret;exact⟨rfl,rfl⟩
theorem row_not {B e sz n:Nat} {v:Value} {xs:List Value} (ho:w.ownsRow B e sz v n xs) (h:w.heap[b]?=some (.cells cs 85 (0,0))) (he:e≠85):v.ownBlock≠some b:=fun e0=>by
 rcases ho.2 with⟨e1,-⟩|⟨g',cap,cur,e1,-,hg',-⟩
 ·rw[e1]at e0;cases e0
 ·rw[e1]at e0;cases e0
  rw[h]at hg';simp at hg';exact he hg'.2.symm
theorem mpush_any (h:w.heap[b]?=some (.cells cs 85 (0,0))) {v:Value} {ops:List Nat} {x:Nat} (hs:cs[69]?=some v) (hv:w.ownsRow 0 25 1 v ops.length (encN .u32 ops)) (hn:ops.length≤65536) :
 Calls Tryz.prog 123 #[.pointer (some ⟨b,0,none⟩),.int .u32 x] w fun e w'=>e=.returned (.tuple #[])∧∃v' w9,Grew w w9 v v'∧w9.ownsRow 0 25 1 v' (ops.length+1) (encN .u32 (ops++[x]))∧w9.heap[b]?=some (.cells cs 85 (0,0))∧w'=w9.setCell ⟨b,69,none⟩ v':=by
 obtain⟨i25,hi25,hi250,hi251,hi252⟩:=info_parts inf25;have hbs:=bs23_1;have h1:=(cell_of_row w b 69 _ _ _ h).trans hs;have HSt:=Lib.hid (fun (w9:World) (v9:Value) (hg:Grew w w9 v v9)=>((hg.1.block b (Array.getElem?_eq_some_iff.1 h).1 (fun e=>row_not hv h (by decide) e.symm)).trans h:w9.heap[b]?=some (.cells cs 85 (0,0))));have HRow:=Lib.hid (own_base hv);obtain⟨n,hnn⟩:∃n,n=ops.length:=⟨_,rfl⟩;rw[←hnn]at HRow hn hv⊢;obtain⟨va,vc,rfl,-⟩:=own_sl hv;have hL63:n+1≤65537:=by omega
 clear h hv hnn;have HCs:=Lib.hid hs;clear hs;go_enter Tryz.func123,Tryz.ntmps123
 go_wp2_with((with_reducible refine wpList_append1B (o:=⟨some 11,.call {callee:=.builtin .append,args:=#[.tmp 8,.tmp 10],argTypes:=#[23,23]},_,_,_,none⟩) rfl _ _ 23 rfl 25 i25 (.int .u32 0) 1 4 Tryz.underlying23 hi25 hi250 hi251 hi252 ?_ ?_ _ _ _ HRow.out _ _ w.heap.size ?_ ?_ ?_ ?_ ?_ ?_ ?_ ?_);rfl;decide;rfl;rfl;rfl;rfl;(simp[Value.oneCell']);(unfold maxLen;omega);omega;intro g9 c9 w9 o9 r9 hl9;have hp9:=HSt.out _ _ r9;have d1:=(cell_of_row w9 b 69 _ _ _ hp9).trans HCs.out;have df:=frozen_of_row w9 b 69 _ _ hp9;have HP9:=Lib.hid hp9;have HR9:=Lib.hid r9;have HO9:=Lib.hid o9;clear h1 hp9 r9 o9)
 go_end0
 exact⟨rfl,_,w9,HR9.out,by rw[encN_append];exact HO9.out,HP9.out,rfl⟩
end
structure MacK where
 md:Value
 gate:Value
 code:Value
 acts:Nat→Value
 floor:Nat
 top:Nat
 mem:Value
structure MacV where
 life:Nat
 pc:Nat
 sp:Nat
 ops:Value
 value:Nat
 fault:Nat
 on:Bool
 log:Value
 replies:Value
 events:Value
structure MacRow (cs:Array Value) (K:MacK) (V:MacV):Prop where
 size:cs.size=76
 c0:cs[0]?=some K.md
 c1:cs[1]?=some K.gate
 c2:cs[2]?=some K.code
 acts:∀i,i<60→cs[3+i]?=some (K.acts i)
 c63:cs[63]?=some (.int .u32 K.floor)
 c64:cs[64]?=some (.int .u32 K.top)
 c65:cs[65]?=some K.mem
 c66:cs[66]?=some (.int .u8 V.life)
 c67:cs[67]?=some (.int .u32 V.pc)
 c68:cs[68]?=some (.int .u32 V.sp)
 c69:cs[69]?=some V.ops
 c70:cs[70]?=some (.int .u32 V.value)
 c71:cs[71]?=some (.int .u8 V.fault)
 c72:cs[72]?=some (.bool V.on)
 c73:cs[73]?=some V.log
 c74:cs[74]?=some V.replies
 c75:cs[75]?=some V.events
section
variable {cs:Array Value} {K:MacK} {V:MacV}
theorem MacRow.set (h:MacRow cs K V) (i:Nat) (v:Value) (V':MacV) (hi:66≤i) (hj:i<76)
 (h66:(if i=66 then some v else some (.int .u8 V.life))=some (.int .u8 V'.life))
 (h67:(if i=67 then some v else some (.int .u32 V.pc))=some (.int .u32 V'.pc))
 (h68:(if i=68 then some v else some (.int .u32 V.sp))=some (.int .u32 V'.sp))
 (h69:(if i=69 then some v else some V.ops)=some V'.ops)
 (h70:(if i=70 then some v else some (.int .u32 V.value))=some (.int .u32 V'.value))
 (h71:(if i=71 then some v else some (.int .u8 V.fault))=some (.int .u8 V'.fault))
 (h72:(if i=72 then some v else some (.bool V.on))=some (.bool V'.on))
 (h73:(if i=73 then some v else some V.log)=some V'.log)
 (h74:(if i=74 then some v else some V.replies)=some V'.replies)
 (h75:(if i=75 then some v else some V.events)=some V'.events):MacRow (cs.setIfInBounds i v) K V':=by
 have hs:=h.size
 have hg:∀(j:Nat) (x:Value),cs[j]?=some x→(cs.setIfInBounds i v)[j]?=if i=j then some v else some x:=fun j x hx=>by
  rw[Array.getElem?_setIfInBounds];by_cases e:i=j
  ·rw[if_pos e,if_pos e,if_pos (by omega)]
  ·rw[if_neg e,if_neg e,hx]
 exact⟨by simpa using hs,(hg 0 _ h.c0).trans (if_neg (by omega)),(hg 1 _ h.c1).trans (if_neg (by omega)),(hg 2 _ h.c2).trans (if_neg (by omega)),
  fun k hk=>(hg _ _ (h.acts k hk)).trans (if_neg (by omega)),(hg 63 _ h.c63).trans (if_neg (by omega)),(hg 64 _ h.c64).trans (if_neg (by omega)),(hg 65 _ h.c65).trans (if_neg (by omega)),
  (hg 66 _ h.c66).trans h66,(hg 67 _ h.c67).trans h67,(hg 68 _ h.c68).trans h68,(hg 69 _ h.c69).trans h69,(hg 70 _ h.c70).trans h70,(hg 71 _ h.c71).trans h71,
  (hg 72 _ h.c72).trans h72,(hg 73 _ h.c73).trans h73,(hg 74 _ h.c74).trans h74,(hg 75 _ h.c75).trans h75⟩
theorem MacRow.setPc (h:MacRow cs K V) (x:Nat):MacRow (cs.setIfInBounds 67 (.int .u32 x)) K {V with pc:=x}:=h.set 67 _ _ (by omega) (by omega) rfl rfl rfl rfl rfl rfl rfl rfl rfl rfl
theorem MacRow.setSp (h:MacRow cs K V) (x:Nat):MacRow (cs.setIfInBounds 68 (.int .u32 x)) K {V with sp:=x}:=h.set 68 _ _ (by omega) (by omega) rfl rfl rfl rfl rfl rfl rfl rfl rfl rfl
theorem MacRow.setOps (h:MacRow cs K V) (v:Value):MacRow (cs.setIfInBounds 69 v) K {V with ops:=v}:=h.set 69 _ _ (by omega) (by omega) rfl rfl rfl rfl rfl rfl rfl rfl rfl rfl
theorem MacRow.setLife (h:MacRow cs K V) (x:Nat):MacRow (cs.setIfInBounds 66 (.int .u8 x)) K {V with life:=x}:=h.set 66 _ _ (by omega) (by omega) rfl rfl rfl rfl rfl rfl rfl rfl rfl rfl
theorem MacRow.setValue (h:MacRow cs K V) (x:Nat):MacRow (cs.setIfInBounds 70 (.int .u32 x)) K {V with value:=x}:=h.set 70 _ _ (by omega) (by omega) rfl rfl rfl rfl rfl rfl rfl rfl rfl rfl
theorem MacRow.setFault (h:MacRow cs K V) (x:Nat):MacRow (cs.setIfInBounds 71 (.int .u8 x)) K {V with fault:=x}:=h.set 71 _ _ (by omega) (by omega) rfl rfl rfl rfl rfl rfl rfl rfl rfl rfl
theorem MacRow.setLog (h:MacRow cs K V) (v:Value):MacRow (cs.setIfInBounds 73 v) K {V with log:=v}:=h.set 73 _ _ (by omega) (by omega) rfl rfl rfl rfl rfl rfl rfl rfl rfl rfl
theorem MacRow.setReplies (h:MacRow cs K V) (v:Value):MacRow (cs.setIfInBounds 74 v) K {V with replies:=v}:=h.set 74 _ _ (by omega) (by omega) rfl rfl rfl rfl rfl rfl rfl rfl rfl rfl
theorem MacRow.setEvents (h:MacRow cs K V) (v:Value):MacRow (cs.setIfInBounds 75 v) K {V with events:=v}:=h.set 75 _ _ (by omega) (by omega) rfl rfl rfl rfl rfl rfl rfl rfl rfl rfl
end
def MacB (w:World) (b:Nat) (K:MacK) (V:MacV):Prop:=∃cs,w.heap[b]?=some (.cells cs 85 (0,0))∧MacRow cs K V
structure MacC (w:World) (b:Nat) (K:MacK) (V:MacV):Prop where
 c1:w.cell? ⟨b,1,none⟩=some K.gate
 c2:w.cell? ⟨b,2,none⟩=some K.code
 c63:w.cell? ⟨b,63,none⟩=some (.int .u32 K.floor)
 c64:w.cell? ⟨b,64,none⟩=some (.int .u32 K.top)
 c65:w.cell? ⟨b,65,none⟩=some K.mem
 c66:w.cell? ⟨b,66,none⟩=some (.int .u8 V.life)
 c67:w.cell? ⟨b,67,none⟩=some (.int .u32 V.pc)
 c68:w.cell? ⟨b,68,none⟩=some (.int .u32 V.sp)
 c69:w.cell? ⟨b,69,none⟩=some V.ops
 fz:∀j,w.frozen? ⟨b,j,none⟩=false
theorem MacB.cells {w:World} {b:Nat} {K:MacK} {V:MacV} (h:MacB w b K V):MacC w b K V:=by
 obtain⟨cs,h,r⟩:=h
 exact⟨(cell_of_row w b 1 _ _ _ h).trans r.c1,(cell_of_row w b 2 _ _ _ h).trans r.c2,(cell_of_row w b 63 _ _ _ h).trans r.c63,(cell_of_row w b 64 _ _ _ h).trans r.c64,(cell_of_row w b 65 _ _ _ h).trans r.c65,
  (cell_of_row w b 66 _ _ _ h).trans r.c66,(cell_of_row w b 67 _ _ _ h).trans r.c67,(cell_of_row w b 68 _ _ _ h).trans r.c68,(cell_of_row w b 69 _ _ _ h).trans r.c69,fun j=>frozen_of_row w b j _ _ h⟩
theorem MacB.fr {w w':World} {b:Nat} {K:MacK} {V:MacV} {F F':Nat→Prop} (h:MacB w b K V) (hf:Fr w w' F F') (hn:¬F b):MacB w' b K V:=by
 obtain⟨cs,h,r⟩:=h;exact⟨cs,hf.row h hn,r⟩
theorem MacB.setPc {w:World} {b:Nat} {K:MacK} {V:MacV} (h:MacB w b K V) (x:Nat):MacB (w.setCell ⟨b,67,none⟩ (.int .u32 x)) b K {V with pc:=x}:=by
 obtain⟨cs,h,r⟩:=h;exact⟨_,heap_setCell_same w b 67 _ _ _ h,r.setPc x⟩
theorem MacB.setOps {w:World} {b:Nat} {K:MacK} {V:MacV} (h:MacB w b K V) (v:Value):MacB (w.setCell ⟨b,69,none⟩ v) b K {V with ops:=v}:=by
 obtain⟨cs,h,r⟩:=h;exact⟨_,heap_setCell_same w b 69 _ _ _ h,r.setOps v⟩
theorem MacB.lt {w:World} {b:Nat} {K:MacK} {V:MacV} (h:MacB w b K V):b<w.heap.size:=by
 obtain⟨cs,h,r⟩:=h;exact(Array.getElem?_eq_some_iff.1 h).1
section
variable {w:World} {b:Nat} {K:MacK} {V:MacV}
theorem nop_act (h:MacB w b K V) (hp:V.pc<4294967295) (o a:Nat) :
 Calls Tryz.prog 71 #[.pointer (some ⟨b,0,none⟩),.agg #[.int .u8 o,.int .u32 a]] w fun e w'=>e=.returned (.tuple #[])∧MacB w' b K {V with pc:=V.pc+1}∧Fr w w' (fun x=>x=b) (fun x=>x=b):=by
 have HB:=Lib.hid h;have c67:=h.cells.c67;have cf:=h.cells.fz;have hlt:=h.lt;have hw:IntKind.u32.wrap ((V.pc:Int)+1)=(V.pc:Int)+1:=by rw[IntKind.wrap_u32];omega
 clear h;go_enter Tryz.func71,Tryz.ntmps71;go_wp2_with fail
 go_end0
 refine⟨rfl,?_,(Fr.setCell w (F:=fun x=>x=b) (a:=⟨b,67,none⟩) rfl _).trans (Fr.of (Bel.new _ _) _)⟩;have:=(HB.out.setPc (V.pc+1)).fr (Fr.of (Bel.new _ (.cells #[.int .u8 o,.int .u32 a] 106)) (fun _=>False)) id
 simpa using this
theorem goto_act (h:MacB w b K V) (o a:Nat) :
 Calls Tryz.prog 76 #[.pointer (some ⟨b,0,none⟩),.agg #[.int .u8 o,.int .u32 a]] w fun e w'=>e=.returned (.tuple #[])∧MacB w' b K {V with pc:=a}∧Fr w w' (fun x=>x=b) (fun x=>x=b):=by
 have HB:=Lib.hid h;have c67:=h.cells.c67;have cf:=h.cells.fz;have hlt:=h.lt;clear h;go_enter Tryz.func76,Tryz.ntmps76;go_wp2_with fail
 go_end0
 refine⟨rfl,?_,(Fr.setCell w (F:=fun x=>x=b) (a:=⟨b,67,none⟩) rfl _).trans (Fr.of (Bel.new _ _) _)⟩;exact(HB.out.setPc a).fr (Fr.of (Bel.new _ (.cells #[.int .u8 o,.int .u32 a] 106)) (fun _=>False)) id
end
structure OpsAt (w:World) (b:Nat) (K:MacK) (V:MacV) (ops:List Nat):Prop where
 m:MacB w b K V
 o:w.ownsRow 0 25 1 V.ops ops.length (encN .u32 ops)
def opsF (b:Nat) (v:Value):Nat→Prop:=fun k=>k=b∨v.ownBlock=some k
section
variable {w:World} {b:Nat} {K:MacK} {V:MacV} {ops:List Nat}
theorem MacB.not_own (h:MacB w b K V) {B e sz n:Nat} {v:Value} {xs:List Value} (ho:w.ownsRow B e sz v n xs) (he:e≠85):v.ownBlock≠some b:=by
 obtain⟨cs,h,r⟩:=h;exact row_not ho h he
theorem OpsAt.push (h:OpsAt w b K V ops) (hn:ops.length≤65536) (x:Nat) :
 Calls Tryz.prog 123 #[.pointer (some ⟨b,0,none⟩),.int .u32 x] w fun e w'=>e=.returned (.tuple #[])∧∃v',OpsAt w' b K {V with ops:=v'} (ops++[x])∧Fr w w' (opsF b V.ops) (opsF b v'):=by
 obtain⟨⟨cs,hh,r⟩,ho⟩:=h;refine(mpush_any hh r.c69 ho hn).mono ?_;rintro e w'⟨rfl,v',w9,hg,ho9,hp9,rfl⟩;have hne:v'.ownBlock≠some b:=row_not ho9 hp9 (by decide);refine⟨rfl,v',⟨⟨_,heap_setCell_same w9 b 69 _ _ _ hp9,r.setOps v'⟩,?_⟩,?_⟩
 ·have:=ownsRow_setCell_other ho9 hne (a:=⟨b,69,none⟩) v'
  simpa using this
 ·refine(Fr.grew (F:=opsF b V.ops) (fun g e=>.inr e) hg (F':=opsF b v') (fun k hk=>hk.elim (fun e=>.inl (.inl e)) .inr)).trans ?_
  exact Fr.setCell w9 (F:=opsF b v') (a:=⟨b,69,none⟩) (.inl rfl) v'
theorem OpsAt.pop {x:Nat} (h:OpsAt w b K V (ops++[x])) (hn:ops.length≤65536) :
 Calls Tryz.prog 119 #[.pointer (some ⟨b,0,none⟩)] w fun e w'=>e=.returned (.int .u32 x)∧∃v',OpsAt w' b K {V with ops:=v'} ops∧Fr w w' (fun k=>k=b) (fun k=>k=b)∧v'.ownBlock=V.ops.ownBlock:=by
 obtain⟨⟨cs,hh,r⟩,ho⟩:=h;rw[List.length_append,List.length_singleton]at ho;have hne:V.ops.ownBlock≠some b:=row_not ho hh (by decide);obtain⟨hlen,ho2⟩:=ho;rcases ho2 with⟨e1,e2⟩|⟨g,cap,cur,hv,hb,hg,hnc,hm,hs,ht⟩
 ·omega
 have hx:w.cell? ⟨g,ops.length,none⟩=some (.int .u32 x):=by
  have e1:(encN .u32 (ops++[x]))[ops.length]?=some (.int .u32 x):=by
   rw[encN_at .u32 _ ops.length (by simp)];simp
  rw[cell_of_row w g ops.length cur 25 (0,0) hg,←e1,←ht,List.getElem?_take,if_pos (by omega)];simp
 rw[hv]at hne;refine(mpop_any hh (g:=g) (n:=ops.length) (cap:=cap) (by rw[r.c69,hv]) hnc hn hx).mono ?_;rintro e w'⟨rfl,rfl⟩;refine⟨rfl,_,⟨⟨_,heap_setCell_same w b 69 _ _ _ hh,r.setOps _⟩,?_⟩,Fr.setCell w (F:=fun k=>k=b) (a:=⟨b,69,none⟩) rfl _,by rw[hv];rfl⟩;refine⟨by rw[encN_length];omega,.inr ⟨g,cap,cur,rfl,hb,(Below.heap_setCell _ _ _ _ (fun e=>hne (by rw[e];rfl))).trans hg,by omega,hm,hs,?_⟩⟩;have e2:cur.toList.take (ops.length*1)=(cur.toList.take ((ops.length+1)*1)).take (ops.length*1):=by rw[List.take_take,Nat.min_eq_left (by omega)]
 rw[e2,ht,encN_append,List.take_append_of_le_length (by rw[encN_length];omega),List.take_of_length_le (by rw[encN_length];omega)]
end
section
variable {w:World} {b:Nat} {K:MacK} {V:MacV} {ops:List Nat}
theorem OpsAt.below {w':World} (h:OpsAt w b K V ops) (hb:Below w.heap.size w w'):OpsAt w' b K V ops:=⟨h.m.fr (Fr.of hb (fun _=>False)) id,own_below h.o hb⟩
theorem OpsAt.setPc (h:OpsAt w b K V ops) (x:Nat):OpsAt (w.setCell ⟨b,67,none⟩ (.int .u32 x)) b K {V with pc:=x} ops:=⟨h.m.setPc x,ownsRow_setCell_other h.o (h.m.not_own h.o (by decide)) _⟩
theorem constant_act (h:OpsAt w b K V ops) (hn:ops.length≤65536) (hp:V.pc<4294967295) (o a:Nat) :
 Calls Tryz.prog 78 #[.pointer (some ⟨b,0,none⟩),.agg #[.int .u8 o,.int .u32 a]] w fun e w'=>e=.returned (.tuple #[])∧∃v',OpsAt w' b K {V with ops:=v',pc:=V.pc+1} (ops++[a])∧Fr w w' (opsF b V.ops) (opsF b v'):=by
 have HP:=Lib.hid ((h.below (Bel.new w (.cells #[.int .u8 o,.int .u32 a] 106))).push hn a);have hw:IntKind.u32.wrap ((V.pc:Int)+1)=(V.pc:Int)+1:=by rw[IntKind.wrap_u32];omega
 clear h;go_enter Tryz.func78,Tryz.ntmps78;go_wp2_with fail;refine HP.out.mono ?_;rintro e w1⟨rfl,v',ho,hf⟩;have HO:=Lib.hid ho;have HF:=Lib.hid hf;have c67:=ho.m.cells.c67;have cf:=ho.m.cells.fz;clear ho hf;simp only at c67;go_wp2_with fail
 go_end0
 refine⟨rfl,v',?_,((Fr.of (Bel.new _ _) _).trans HF.out).trans (Fr.setCell w1 (F:=opsF b v') (a:=⟨b,67,none⟩) (.inl rfl) _)⟩;have:=HO.out.setPc (V.pc+1)
 simpa using this
theorem drop_act {x:Nat} (h:OpsAt w b K V (ops++[x])) (hn:ops.length≤65536) (hp:V.pc<4294967295) (o a:Nat) :
 Calls Tryz.prog 80 #[.pointer (some ⟨b,0,none⟩),.agg #[.int .u8 o,.int .u32 a]] w fun e w'=>e=.returned (.tuple #[])∧∃v',OpsAt w' b K {V with ops:=v',pc:=V.pc+1} ops∧Fr w w' (fun k=>k=b) (fun k=>k=b)∧v'.ownBlock=V.ops.ownBlock:=by
 have HP:=Lib.hid ((h.below (Bel.new w (.cells #[.int .u8 o,.int .u32 a] 106))).pop hn);have hw:IntKind.u32.wrap ((V.pc:Int)+1)=(V.pc:Int)+1:=by rw[IntKind.wrap_u32];omega
 clear h;go_enter Tryz.func80,Tryz.ntmps80;go_wp2_with fail;refine HP.out.mono ?_;rintro e w1⟨rfl,v',ho,hf,hv⟩;have HO:=Lib.hid ho;have HF:=Lib.hid hf;have HV:=Lib.hid hv;have c67:=ho.m.cells.c67;have cf:=ho.m.cells.fz;clear ho hf hv;simp only at c67;go_wp2_with fail
 go_end0
 refine⟨rfl,v',?_,((Fr.of (Bel.new _ _) _).trans HF.out).trans (Fr.setCell w1 (F:=fun k=>k=b) (a:=⟨b,67,none⟩) rfl _),HV.out⟩;have:=HO.out.setPc (V.pc+1)
 simpa using this
end
section
variable {w:World} {b:Nat} {K:MacK} {V:MacV} {ops:List Nat}
theorem local_act (h:OpsAt w b K V ops) (hn:ops.length≤65536) (hp:V.pc<4294967295) (o a:Nat) :
 Calls Tryz.prog 79 #[.pointer (some ⟨b,0,none⟩),.agg #[.int .u8 o,.int .u32 a]] w fun e w'=>e=.returned (.tuple #[])∧∃v',OpsAt w' b K {V with ops:=v',pc:=V.pc+1} (ops++[(V.sp+a)%4294967296])∧Fr w w' (opsF b V.ops) (opsF b v'):=by
 have hmx:Tryz.prog.follows .mixedOrders=true:=by kernel_rfl
 obtain⟨W1,hW1⟩:∃W1,W1=w.alloc (.cells #[.int .u8 o,.int .u32 a] 106):=⟨_,rfl⟩;have hb1:Below w.heap.size w W1:=by rw[hW1];exact Bel.new _ _
 have hh1:W1.heap[w.heap.size]?=some (.cells #[.int .u8 o,.int .u32 a] 106 (0,0)):=by rw[hW1];exact heap_alloc_new _ _
 have d1:=cell_of_row W1 w.heap.size 1 _ _ _ hh1;have c68:=(h.below hb1).m.cells.c68;have HP:=Lib.hid (((h.below hb1).below (Below.refl _ _).drew).push hn ((V.sp+a)%4294967296));have HB1:=Lib.hid hb1;have hw:IntKind.u32.wrap ((V.pc:Int)+1)=(V.pc:Int)+1:=by rw[IntKind.wrap_u32];omega
 have hw2:IntKind.u32.wrap ((V.sp:Int)+(a:Int))=(((V.sp+a)%4294967296:Nat):Int):=by rw[IntKind.wrap_u32];omega
 clear h hb1 hh1;generalize (V.sp+a)%4294967296=q at*;go_enter Tryz.func79,Tryz.ntmps79;go_wp2_with fail;rw[←hW1];clear hW1;refine wp_region_still_tail 8 hmx (by kernel_rfl) ?_;simp only[List.take_succ_cons,List.take_zero,List.drop_succ_cons,List.drop_zero]
 repeat still_step
 refine wpStill_nil ?_;change wpList _ _ _ _ _ W1.drew;go_wp2_with fail;refine HP.out.mono ?_;rintro e w1⟨rfl,v',ho,hf⟩;have HO:=Lib.hid ho;have HF:=Lib.hid hf;have c67:=ho.m.cells.c67;have cf:=ho.m.cells.fz;clear ho hf;simp only at c67;go_wp2_with fail
 go_end0
 refine⟨rfl,v',?_,(((Fr.of HB1.out _).drew).trans HF.out).trans (Fr.setCell w1 (F:=opsF b v') (a:=⟨b,67,none⟩) (.inl rfl) _)⟩;have:=HO.out.setPc (V.pc+1)
 simpa using this
theorem OpsAt.top {x:Nat} (h:OpsAt w b K V (ops++[x])):∃g cap,V.ops=.slice (some ⟨g,0,none⟩) (ops.length+1) cap∧w.cell? ⟨g,ops.length,none⟩=some (.int .u32 x):=by
 have ho:=h.o;rw[List.length_append,List.length_singleton]at ho;obtain⟨g,cap,hv,-,-,-,hc⟩:=own_form ho (by omega);refine⟨g,cap,hv,?_⟩;rw[hc ops.length (by rw[encN_length];simp),encN_at .u32 _ ops.length (by simp)];simp
theorem dup_act {x:Nat} (h:OpsAt w b K V (ops++[x])) (hn:ops.length+1≤65536) (hp:V.pc<4294967295) (o a:Nat) :
 Calls Tryz.prog 81 #[.pointer (some ⟨b,0,none⟩),.agg #[.int .u8 o,.int .u32 a]] w fun e w'=>e=.returned (.tuple #[])∧∃v',OpsAt w' b K {V with ops:=v',pc:=V.pc+1} (ops++[x]++[x])∧Fr w w' (opsF b V.ops) (opsF b v'):=by
 have hmx:Tryz.prog.follows .mixedOrders=true:=by kernel_rfl
 obtain⟨W1,hW1⟩:∃W1,W1=w.alloc (.cells #[.int .u8 o,.int .u32 a] 106):=⟨_,rfl⟩;have hb1:Below w.heap.size w W1:=by rw[hW1];exact Bel.new _ _
 have HP:=Lib.hid (((h.below hb1).below (Below.refl _ _).drew).push (by rw[List.length_append,List.length_singleton];exact hn) x);obtain⟨g,cap,hv,hx⟩:=(h.below hb1).top;have c69:=(h.below hb1).m.cells.c69;rw[hv]at c69;have HV:=Lib.hid hv;have HB1:=Lib.hid hb1;obtain⟨n,hnn⟩:∃n,n=ops.length:=⟨_,rfl⟩;rw[←hnn]at c69 hx hn;have e1:(((n+1:Nat):Int)) - 1=(n:Int):=by omega
 have hw1:IntKind.i64.wrap (n:Int)=(n:Int):=IntWalk.i64_in _ (by omega);have hlt:(n:Int)<(n:Int)+1:=by omega
 have hlt2:n<n+1:=by omega
 have hn0:(0:Int)≤(n:Int):=by omega
 have hw:IntKind.u32.wrap ((V.pc:Int)+1)=(V.pc:Int)+1:=by rw[IntKind.wrap_u32];omega
 clear h hb1 hv hnn;go_enter Tryz.func81,Tryz.ntmps81;go_wp2_with fail;rw[←hW1];clear hW1;refine wp_region_still_tail 13 hmx (by kernel_rfl) ?_;simp only[List.take_succ_cons,List.take_zero,List.drop_succ_cons,List.drop_zero]
 repeat still_step
 refine wpStill_nil ?_;change wpList _ _ _ _ _ W1.drew;go_wp2_with fail;refine HP.out.mono ?_;rintro e w1⟨rfl,v',ho,hf⟩;have HO:=Lib.hid ho;have HF:=Lib.hid hf;have c67:=ho.m.cells.c67;have cf:=ho.m.cells.fz;clear ho hf;simp only at c67;go_wp2_with fail
 go_end0
 refine⟨rfl,v',?_,(((Fr.of HB1.out _).drew).trans HF.out).trans (Fr.setCell w1 (F:=opsF b v') (a:=⟨b,67,none⟩) (.inl rfl) _)⟩;have:=HO.out.setPc (V.pc+1)
 simpa using this
end
structure MacR where
 on:Bool
 log:Value
 replies:Value
 events:Value
def macV (s:St) (vo:Value) (R:MacR):MacV:=⟨s.life,s.pc,s.sp,vo,s.value,s.fault,R.on,R.log,R.replies,R.events⟩
structure MemK where
 p:Nat
 g:Nat
 c:Nat
 N:Nat
structure Mach (w:World) (b:Nat) (K:MacK) (s:St) (vo:Value) (R:MacR) (M:MemK) (vt:Value) (logs:Bool) (tou:List (Nat×Bool)):Prop where
 o:OpsAt w b K (macV s vo R) s.ops
 mem:MemAt w M.p M.g M.c M.N vt s.data logs tou
 km:K.mem=.pointer (some ⟨M.p,0,none⟩)
def machF (b:Nat) (vo:Value) (M:MemK) (vt:Value):Nat→Prop:=fun k=>opsF b vo k∨memF M.p M.g vt k
theorem not_row_of {w:World} {b:Nat} {cs:Array Value} {t:Nat} {B e sz n:Nat} {v:Value} {xs:List Value} (ho:w.ownsRow B e sz v n xs) (h:w.heap[b]?=some (.cells cs t (0,0))) (he:e≠t):v.ownBlock≠some b:=fun e0=>by
 rcases ho.2 with⟨e1,-⟩|⟨g',cap,cur,e1,-,hg',-⟩
 ·rw[e1]at e0;cases e0
 ·rw[e1]at e0;cases e0
  rw[h]at hg';simp at hg';exact he hg'.2.symm
section
variable {w:World} {b:Nat} {K:MacK} {s:St} {vo:Value} {R:MacR} {M:MemK} {vt:Value} {logs:Bool} {tou:List (Nat×Bool)}
theorem ops_mem_apart {V:MacV} {ops:List Nat} {d:List Nat} (h:OpsAt w b K V ops) (hm:MemAt w M.p M.g M.c M.N vt d logs tou):∀k,memF M.p M.g vt k→¬opsF b V.ops k:=by
 obtain⟨⟨cs,hb,-⟩,ho⟩:=h
 have hg:∀k,k=M.g→k≠b:=fun k e e2=>by
  have:=not_row_of hm.row hb (by decide);exact this (by rw[←e2,e];rfl)
 intro k hk hf;rcases hk with rfl|rfl|hk
 ·rcases hf with rfl|hf
  ·have:=hm.hp
   rw[hb]at this;simp at this
  ·exact not_row_of ho hm.hp (by decide) hf
 ·rcases hf with e|hf
  ·exact hg _ rfl e
  ·exact own_apart ho hm.row (by decide) _ hf rfl
 ·rcases hf with rfl|hf
  ·exact not_row_of hm.tr hb (by decide) hk
  ·exact own_apart ho hm.tr (by decide) _ hf hk
theorem MemAt.flt {p g c N:Nat} {d:List Nat} (h:MemAt w p g c N vt d logs tou):∀k,memF p g vt k→k<w.heap.size:=by
 rintro k (rfl|rfl|hk)
 ·exact h.plt
 ·exact h.glt
 ·exact(h.tr.lt k hk).2
theorem Mach.lt (h:Mach w b K s vo R M vt logs tou):b<w.heap.size:=h.o.m.lt
theorem Mach.lift {w':World} {s':St} {vo':Value} {R':MacR} (h:Mach w b K s vo R M vt logs tou) (ho:OpsAt w' b K (macV s' vo' R') s'.ops) (hd:s'.data=s.data) {F':Nat→Prop} (hf:Fr w w' (opsF b vo) F') :
 Mach w' b K s' vo' R' M vt logs tou:=by
 refine⟨ho,?_,h.km⟩;rw[hd];exact h.mem.fr hf (ops_mem_apart h.o h.mem)
theorem Mach.liftM {w':World} {d:List Nat} {vt':Value} {logs':Bool} {tou':List (Nat×Bool)} (h:Mach w b K s vo R M vt logs tou) (hm:MemAt w' M.p M.g M.c M.N vt' d logs' tou') {F':Nat→Prop} (hf:Fr w w' (memF M.p M.g vt) F') :
 Mach w' b K {s with data:=d} vo R M vt' logs' tou':=by
 have ha:=ops_mem_apart h.o h.mem;refine⟨⟨h.o.m.fr hf (fun e=>ha b e (.inl rfl)),own_fr h.o.o hf (fun g e e2=>ha g e2 (.inr e))⟩,hm,h.km⟩
theorem Mach.below {w':World} (h:Mach w b K s vo R M vt logs tou) (hb:Below w.heap.size w w'):Mach w' b K s vo R M vt logs tou:=⟨h.o.below hb,h.mem.below hb,h.km⟩
theorem Mach.setPc (h:Mach w b K s vo R M vt logs tou) (x:Nat):Mach (w.setCell ⟨b,67,none⟩ (.int .u32 x)) b K {s with pc:=x} vo R M vt logs tou:=
 h.lift (s':={s with pc:=x}) (h.o.setPc x) rfl (Fr.setCell w (F:=opsF b vo) (a:=⟨b,67,none⟩) (.inl rfl) _)
theorem MacB.setSp {V:MacV} (h:MacB w b K V) (x:Nat):MacB (w.setCell ⟨b,68,none⟩ (.int .u32 x)) b K {V with sp:=x}:=by
 obtain⟨cs,h,r⟩:=h;exact⟨_,heap_setCell_same w b 68 _ _ _ h,r.setSp x⟩
theorem MacB.setLife {V:MacV} (h:MacB w b K V) (x:Nat):MacB (w.setCell ⟨b,66,none⟩ (.int .u8 x)) b K {V with life:=x}:=by
 obtain⟨cs,h,r⟩:=h;exact⟨_,heap_setCell_same w b 66 _ _ _ h,r.setLife x⟩
theorem MacB.setValue {V:MacV} (h:MacB w b K V) (x:Nat):MacB (w.setCell ⟨b,70,none⟩ (.int .u32 x)) b K {V with value:=x}:=by
 obtain⟨cs,h,r⟩:=h;exact⟨_,heap_setCell_same w b 70 _ _ _ h,r.setValue x⟩
theorem MacB.setFault {V:MacV} (h:MacB w b K V) (x:Nat):MacB (w.setCell ⟨b,71,none⟩ (.int .u8 x)) b K {V with fault:=x}:=by
 obtain⟨cs,h,r⟩:=h;exact⟨_,heap_setCell_same w b 71 _ _ _ h,r.setFault x⟩
theorem Mach.put {w':World} {s':St} {R':MacR} (h:Mach w b K s vo R M vt logs tou) {j:Nat} {v:Value} (hw:w'=w.setCell ⟨b,j,none⟩ v) (hm:MacB w' b K (macV s' vo R')) (ho:s'.ops=s.ops) (hd:s'.data=s.data):Mach w' b K s' vo R' M vt logs tou:=by
 subst hw;refine h.lift ⟨hm,?_⟩ hd (Fr.setCell w (F:=opsF b vo) (a:=⟨b,j,none⟩) (.inl rfl) v);rw[ho];exact ownsRow_setCell_other h.o.o (h.o.m.not_own h.o.o (by decide)) _
theorem Mach.setSp (h:Mach w b K s vo R M vt logs tou) (x:Nat):Mach (w.setCell ⟨b,68,none⟩ (.int .u32 x)) b K {s with sp:=x} vo R M vt logs tou:=h.put rfl (h.o.m.setSp x) rfl rfl
theorem Mach.setLife (h:Mach w b K s vo R M vt logs tou) (x:Nat):Mach (w.setCell ⟨b,66,none⟩ (.int .u8 x)) b K {s with life:=x} vo R M vt logs tou:=h.put rfl (h.o.m.setLife x) rfl rfl
theorem Mach.setValue (h:Mach w b K s vo R M vt logs tou) (x:Nat):Mach (w.setCell ⟨b,70,none⟩ (.int .u32 x)) b K {s with value:=x} vo R M vt logs tou:=h.put rfl (h.o.m.setValue x) rfl rfl
theorem Mach.setFault (h:Mach w b K s vo R M vt logs tou) (x:Nat):Mach (w.setCell ⟨b,71,none⟩ (.int .u8 x)) b K {s with fault:=x} vo R M vt logs tou:=h.put rfl (h.o.m.setFault x) rfl rfl
theorem frB (w:World) (b:Nat) (vo:Value) (M:MemK) (vt:Value) (j:Nat) (v:Value):Fr w (w.setCell ⟨b,j,none⟩ v) (machF b vo M vt) (machF b vo M vt):=Fr.setCell w (F:=machF b vo M vt) (a:=⟨b,j,none⟩) (.inl (.inl rfl)) v
theorem frO {w':World} {vo':Value} (h:Fr w w' (opsF b vo) (opsF b vo')) (M:MemK) (vt:Value):Fr w w' (machF b vo M vt) (machF b vo' M vt):=
 h.mono (fun i e=>.inl e) (fun i e=>e.elim .inr (fun e2=>.inl (.inr e2)))
theorem frM {w':World} {vt':Value} (h:Fr w w' (memF M.p M.g vt) (memF M.p M.g vt')) (b:Nat) (vo:Value):Fr w w' (machF b vo M vt) (machF b vo M vt'):=
 h.mono (fun i e=>.inr e) (fun i e=>e.elim (fun e2=>.inl (.inl e2)) .inr)
theorem frP {w':World} {vo':Value} (h:Fr w w' (fun k=>k=b) (fun k=>k=b)) (hv:vo'.ownBlock=vo.ownBlock) (M:MemK) (vt:Value):Fr w w' (machF b vo M vt) (machF b vo' M vt):=
 h.mono (fun i e=>.inl (.inl e)) (fun i e=>e.elim (fun e2=>e2.elim .inr (fun e3=>.inl (.inl (.inr (by rw[←hv];exact e3))))) (fun e2=>.inl (.inr e2)))
end
def fltV (f:Nat):List PanicEntry:=[{v:=.iface 39 (.int .u8 f),recovered:=false}]
def ActOk (b:Nat) (K:MacK) (R:MacR) (M:MemK) (logs:Bool) (tou:List (Nat×Bool)) (vo vt:Value) (w:World) (r:St×List (Nat×Bool)) (e:Ending) (w':World):Prop:=
 e=.returned (.tuple #[])∧∃vo' vt',Mach w' b K r.1 vo' R M vt' logs (touL logs tou r.2)∧Fr w w' (machF b vo M vt) (machF b vo' M vt')
def ActFlt (b:Nat) (K:MacK) (s:St) (R:MacR) (M:MemK) (logs:Bool) (tou:List (Nat×Bool)) (vo vt:Value) (w:World) (f:Nat) (t:List (Nat×Bool)) (e:Ending) (w':World):Prop:=
 e=.panicked (fltV f)∧∃vo' vt',MacB w' b K (macV s vo' R)∧w'.ownsRow 0 25 1 vo s.ops.length (encN .u32 s.ops)∧MemAt w' M.p M.g M.c M.N vt' s.data logs (touL logs tou t)∧Fr w w' (machF b vo M vt) (machF b vo M vt')
theorem touL_nil (logs:Bool) {tou:List (Nat×Bool)} (h:tou.length≤65536):touL logs tou []=tou:=by
 cases logs
 ·rfl
 ·unfold touL
  rw[if_pos rfl,List.append_nil,List.take_of_length_le h]
section
variable {w:World} {b:Nat} {K:MacK} {s:St} {vo:Value} {R:MacR} {M:MemK} {vt:Value} {logs:Bool} {tou:List (Nat×Bool)}
theorem pop_of {l:List Nat} (h:1≤l.length):∃m x,l=m++[x]:=by
 rcases List.eq_nil_or_concat l with rfl|⟨m,x,rfl⟩
 ·simp at h
 ·exact⟨m,x,by simp⟩
theorem pop2_of {l:List Nat} (h:2≤l.length):∃m x y,l=m++[x]++[y]:=by
 obtain⟨m,y,rfl⟩:=pop_of (l:=l) (by omega);obtain⟨m,x,rfl⟩:=pop_of (l:=m) (by simpa using h);exact⟨m,x,y,rfl⟩
theorem topW_one {l:List Nat} {x:Nat} (h:s.ops=l++[x]):topW s 0=x∧s.drops 1=l:=by
 unfold topW St.drops;rw[h];simp
theorem topW_two {l:List Nat} {x y:Nat} (h:s.ops=l++[x]++[y]):topW s 0=y∧topW s 1=x∧s.drops 2=l∧s.drops 1=l++[x]:=by
 unfold topW St.drops;rw[h];refine⟨by simp,by simp,by simp,?_⟩;simp only[List.length_append,List.length_singleton,Nat.add_sub_cancel];exact List.take_left' (by simp)
end
section
variable {w:World} {b:Nat} {K:MacK} {s:St} {vo:Value} {R:MacR} {M:MemK} {vt:Value} {logs:Bool} {tou:List (Nat×Bool)}
theorem Mach.pop {l:List Nat} {x:Nat} (h:Mach w b K s vo R M vt logs tou) (ho:s.ops=l++[x]) (hn:l.length≤65536) :
 Calls Tryz.prog 119 #[.pointer (some ⟨b,0,none⟩)] w fun e w'=>e=.returned (.int .u32 x)∧∃vo',Mach w' b K {s with ops:=l} vo' R M vt logs tou∧Fr w w' (machF b vo M vt) (machF b vo' M vt)∧Fr w w' (fun k=>k=b) (fun k=>k=b)∧vo'.ownBlock=vo.ownBlock:=by
 obtain⟨life,pc,sp,ops,data,value,fault⟩:=s;simp only at ho;subst ho;refine(h.o.pop hn).mono ?_;rintro e w'⟨rfl,v',ho,hf,hv⟩;exact⟨rfl,v',h.lift (s':=⟨life,pc,sp,l,data,value,fault⟩) ho rfl (hf.mono (G1:=fun k=>k=b) (fun i e=>.inl e) (fun i e=>.inl (.inl e))),frP hf hv M vt,hf,hv⟩
theorem Mach.push (h:Mach w b K s vo R M vt logs tou) (hn:s.ops.length≤65536) (x:Nat) :
 Calls Tryz.prog 123 #[.pointer (some ⟨b,0,none⟩),.int .u32 x] w fun e w'=>e=.returned (.tuple #[])∧∃vo',Mach w' b K {s with ops:=s.ops++[x]} vo' R M vt logs tou∧Fr w w' (machF b vo M vt) (machF b vo' M vt):=by
 refine(h.o.push hn x).mono ?_;rintro e w'⟨rfl,v',ho,hf⟩;exact⟨rfl,v',h.lift (s':={s with ops:=s.ops++[x]}) ho rfl hf,frO hf M vt⟩
theorem Mach.c65 (h:Mach w b K s vo R M vt logs tou):w.cell? ⟨b,65,none⟩=some (.pointer (some ⟨M.p,0,none⟩)):=h.km▸h.o.m.cells.c65
theorem load1_act {l:List Nat} {x:Nat} (h:Mach w b K s vo R M vt logs tou) (ho:s.ops=l++[x]) (hx:x<4294967296) (hn:l.length≤65535) (hp:s.pc<4294967295) (o a:Nat) :
 Calls Tryz.prog 83 #[.pointer (some ⟨b,0,none⟩),.agg #[.int .u8 o,.int .u32 a]] w (ActOk b K R M logs tou vo vt w ({s with ops:=l++[loadN s.data x 1],pc:=s.pc+1},touN M.N x 1 false)):=by
 have hmx:Tryz.prog.follows .mixedOrders=true:=by kernel_rfl
 obtain⟨W1,hW1⟩:∃W1,W1=w.alloc (.cells #[.int .u8 o,.int .u32 a] 106):=⟨_,rfl⟩;have hb1:Below w.heap.size w W1:=by rw[hW1];exact Bel.new _ _
 have H1:=(h.below hb1).below (Below.refl _ _).drew;have c65:=(h.below hb1).c65;have HP:=Lib.hid (H1.pop ho (by omega));have HB1:=Lib.hid hb1;have hw:IntKind.u32.wrap ((s.pc:Int)+1)=(s.pc:Int)+1:=by rw[IntKind.wrap_u32];omega
 clear h hb1 H1 ho;go_enter Tryz.func83,Tryz.ntmps83;go_wp2_with fail;rw[←hW1];clear hW1
 first|(go_region_held3(fun W=>W.cell? ⟨b,65,none⟩=some (.pointer (some ⟨M.p,0,none⟩)))
  (first|assumption)
  (first
   | (go_at_call 119;refine HP.out.mono ?_;rintro e w2⟨rfl,vo2,m2,f2,-,-⟩;have d65:=m2.c65;have HL:=Lib.hid (load1_mem m2.mem hx);have HM2:=Lib.hid m2;have HF2:=Lib.hid f2;clear m2 f2)
   | (go_at_call 124;refine HL.out.mono ?_;rintro e w3⟨rfl,vt3,m3,f3⟩;have hm3:=HM2.out.liftM m3 f3;have e65:=hm3.c65;have HU:=Lib.hid (hm3.push (show l.length≤65536 by omega) (loadN s.data x 1));have HF3:=Lib.hid (frM f3 b vo2);clear hm3 m3 f3)
   | (go_at_call 123; refine HU.out.mono ?_; rintro e w4 ⟨rfl, vo4, m4, f4⟩; have g65 := m4.c65; have HM4 := Lib.hid m4; have HF4 := Lib.hid f4; clear m4 f4))) | fail "held"
 have c67:=HM4.out.o.m.cells.c67;have cf:=HM4.out.o.m.cells.fz;simp only[macV]at c67;go_wp2_with fail
 go_end0
 have:=HM4.out.setPc (s.pc+1);refine⟨rfl,vo4,vt3,by simpa using this,?_⟩;exact((((Fr.of HB1.out _).drew.trans HF2.out).trans HF3.out).trans HF4.out).trans (frB w4 b vo4 M vt3 67 _)
theorem load2_act {l:List Nat} {x:Nat} (h:Mach w b K s vo R M vt logs tou) (ho:s.ops=l++[x]) (hx:x<4294967296) (hn:l.length≤65535) (hp:s.pc<4294967295) (o a:Nat) :
 Calls Tryz.prog 84 #[.pointer (some ⟨b,0,none⟩),.agg #[.int .u8 o,.int .u32 a]] w (ActOk b K R M logs tou vo vt w ({s with ops:=l++[loadN s.data x 2],pc:=s.pc+1},touN M.N x 2 false)):=by
 have hmx:Tryz.prog.follows .mixedOrders=true:=by kernel_rfl
 obtain⟨W1,hW1⟩:∃W1,W1=w.alloc (.cells #[.int .u8 o,.int .u32 a] 106):=⟨_,rfl⟩;have hb1:Below w.heap.size w W1:=by rw[hW1];exact Bel.new _ _
 have H1:=(h.below hb1).below (Below.refl _ _).drew;have c65:=(h.below hb1).c65;have HP:=Lib.hid (H1.pop ho (by omega));have HB1:=Lib.hid hb1;have hw:IntKind.u32.wrap ((s.pc:Int)+1)=(s.pc:Int)+1:=by rw[IntKind.wrap_u32];omega
 clear h hb1 H1 ho;go_enter Tryz.func84,Tryz.ntmps84;go_wp2_with fail;rw[←hW1];clear hW1
 first|(go_region_held3(fun W=>W.cell? ⟨b,65,none⟩=some (.pointer (some ⟨M.p,0,none⟩)))
  (first|assumption)
  (first
   | (go_at_call 119;refine HP.out.mono ?_;rintro e w2⟨rfl,vo2,m2,f2,-,-⟩;have d65:=m2.c65;have HL:=Lib.hid (load2_mem m2.mem hx);have HM2:=Lib.hid m2;have HF2:=Lib.hid f2;clear m2 f2)
   | (go_at_call 125;refine HL.out.mono ?_;rintro e w3⟨rfl,vt3,m3,f3⟩;have hm3:=HM2.out.liftM m3 f3;have e65:=hm3.c65;have HU:=Lib.hid (hm3.push (show l.length≤65536 by omega) (loadN s.data x 2));have HF3:=Lib.hid (frM f3 b vo2);clear hm3 m3 f3)
   | (go_at_call 123; refine HU.out.mono ?_; rintro e w4 ⟨rfl, vo4, m4, f4⟩; have g65 := m4.c65; have HM4 := Lib.hid m4; have HF4 := Lib.hid f4; clear m4 f4))) | fail "held"
 have c67:=HM4.out.o.m.cells.c67;have cf:=HM4.out.o.m.cells.fz;simp only[macV]at c67;go_wp2_with fail
 go_end0
 have:=HM4.out.setPc (s.pc+1);refine⟨rfl,vo4,vt3,by simpa using this,?_⟩;exact((((Fr.of HB1.out _).drew.trans HF2.out).trans HF3.out).trans HF4.out).trans (frB w4 b vo4 M vt3 67 _)
theorem load4_act {l:List Nat} {x:Nat} (h:Mach w b K s vo R M vt logs tou) (ho:s.ops=l++[x]) (hx:x<4294967296) (hn:l.length≤65535) (hp:s.pc<4294967295) (o a:Nat) :
 Calls Tryz.prog 85 #[.pointer (some ⟨b,0,none⟩),.agg #[.int .u8 o,.int .u32 a]] w (ActOk b K R M logs tou vo vt w ({s with ops:=l++[loadN s.data x 4],pc:=s.pc+1},touN M.N x 4 false)):=by
 have hmx:Tryz.prog.follows .mixedOrders=true:=by kernel_rfl
 obtain⟨W1,hW1⟩:∃W1,W1=w.alloc (.cells #[.int .u8 o,.int .u32 a] 106):=⟨_,rfl⟩;have hb1:Below w.heap.size w W1:=by rw[hW1];exact Bel.new _ _
 have H1:=(h.below hb1).below (Below.refl _ _).drew;have c65:=(h.below hb1).c65;have HP:=Lib.hid (H1.pop ho (by omega));have HB1:=Lib.hid hb1;have hw:IntKind.u32.wrap ((s.pc:Int)+1)=(s.pc:Int)+1:=by rw[IntKind.wrap_u32];omega
 clear h hb1 H1 ho;go_enter Tryz.func85,Tryz.ntmps85;go_wp2_with fail;rw[←hW1];clear hW1
 first|(go_region_held3(fun W=>W.cell? ⟨b,65,none⟩=some (.pointer (some ⟨M.p,0,none⟩)))
  (first|assumption)
  (first
   | (go_at_call 119;refine HP.out.mono ?_;rintro e w2⟨rfl,vo2,m2,f2,-,-⟩;have d65:=m2.c65;have HL:=Lib.hid (load4_mem m2.mem hx);have HM2:=Lib.hid m2;have HF2:=Lib.hid f2;clear m2 f2)
   | (go_at_call 118;refine HL.out.mono ?_;rintro e w3⟨rfl,vt3,m3,f3⟩;have hm3:=HM2.out.liftM m3 f3;have e65:=hm3.c65;have HU:=Lib.hid (hm3.push (show l.length≤65536 by omega) (loadN s.data x 4));have HF3:=Lib.hid (frM f3 b vo2);clear hm3 m3 f3)
   | (go_at_call 123; refine HU.out.mono ?_; rintro e w4 ⟨rfl, vo4, m4, f4⟩; have g65 := m4.c65; have HM4 := Lib.hid m4; have HF4 := Lib.hid f4; clear m4 f4))) | fail "held"
 have c67:=HM4.out.o.m.cells.c67;have cf:=HM4.out.o.m.cells.fz;simp only[macV]at c67;go_wp2_with fail
 go_end0
 have:=HM4.out.setPc (s.pc+1);refine⟨rfl,vo4,vt3,by simpa using this,?_⟩;exact((((Fr.of HB1.out _).drew.trans HF2.out).trans HF3.out).trans HF4.out).trans (frB w4 b vo4 M vt3 67 _)
theorem store1_act {l:List Nat} {x y:Nat} (h:Mach w b K s vo R M vt logs tou) (ho:s.ops=l++[x]++[y]) (hx:x<4294967296) (hy:y<4294967296) (hn:l.length≤65535) (hp:s.pc<4294967295) (o a:Nat) :
 Calls Tryz.prog 86 #[.pointer (some ⟨b,0,none⟩),.agg #[.int .u8 o,.int .u32 a]] w (ActOk b K R M logs tou vo vt w ({s with ops:=l,data:=storeN s.data x y 1,pc:=s.pc+1},touN M.N x 1 true)):=by
 have hmx:Tryz.prog.follows .mixedOrders=true:=by kernel_rfl
 have HP:=Lib.hid ((h.below (Bel.new w (.cells #[.int .u8 o,.int .u32 a] 106))).pop ho (by simp;omega));have HB1:=Lib.hid (Bel.new w (.cells #[.int .u8 o,.int .u32 a] 106));have hw:IntKind.u32.wrap ((s.pc:Int)+1)=(s.pc:Int)+1:=by rw[IntKind.wrap_u32];omega
 clear h ho;go_enter Tryz.func86,Tryz.ntmps86;go_wp2_with fail;refine HP.out.mono ?_;rintro e w1⟨rfl,vo1,m1,f1,-,-⟩;have c65:=m1.c65;have HP2:=Lib.hid ((m1.below (Below.refl _ _).drew).pop (l:=l) rfl (by omega));have HF1:=Lib.hid f1;clear m1 f1;go_wp2_with fail
 first|(go_region_held3(fun W=>W.cell? ⟨b,65,none⟩=some (.pointer (some ⟨M.p,0,none⟩)))
  (first|assumption)
  (first
   | (go_at_call 119;refine HP2.out.mono ?_;rintro e w2⟨rfl,vo2,m2,f2,-,-⟩;have d65:=m2.c65;have HL:=Lib.hid (store1_mem m2.mem hx hy);have HM2:=Lib.hid m2;have HF2:=Lib.hid f2;clear m2 f2)
   | (go_at_call 126; refine HL.out.mono ?_; rintro e w4 ⟨rfl, vt3, m3, f3⟩; have hm3 := HM2.out.liftM m3 f3; have e65 := hm3.c65; have HM4 := Lib.hid hm3; have HF3 := Lib.hid (frM f3 b vo2); clear hm3 m3 f3))) | fail "held"
 have c67:=HM4.out.o.m.cells.c67;have cf:=HM4.out.o.m.cells.fz;simp only[macV]at c67;go_wp2_with fail
 go_end0
 have:=HM4.out.setPc (s.pc+1);refine⟨rfl,vo2,vt3,by simpa using this,?_⟩;exact(((((Fr.of HB1.out _).trans HF1.out).drew).trans HF2.out).trans HF3.out).trans (frB w4 b vo2 M vt3 67 _)
theorem store2_act {l:List Nat} {x y:Nat} (h:Mach w b K s vo R M vt logs tou) (ho:s.ops=l++[x]++[y]) (hx:x<4294967296) (hy:y<4294967296) (hn:l.length≤65535) (hp:s.pc<4294967295) (o a:Nat) :
 Calls Tryz.prog 87 #[.pointer (some ⟨b,0,none⟩),.agg #[.int .u8 o,.int .u32 a]] w (ActOk b K R M logs tou vo vt w ({s with ops:=l,data:=storeN s.data x y 2,pc:=s.pc+1},touN M.N x 2 true)):=by
 have hmx:Tryz.prog.follows .mixedOrders=true:=by kernel_rfl
 have HP:=Lib.hid ((h.below (Bel.new w (.cells #[.int .u8 o,.int .u32 a] 106))).pop ho (by simp;omega));have HB1:=Lib.hid (Bel.new w (.cells #[.int .u8 o,.int .u32 a] 106));have hw:IntKind.u32.wrap ((s.pc:Int)+1)=(s.pc:Int)+1:=by rw[IntKind.wrap_u32];omega
 clear h ho;go_enter Tryz.func87,Tryz.ntmps87;go_wp2_with fail;refine HP.out.mono ?_;rintro e w1⟨rfl,vo1,m1,f1,-,-⟩;have c65:=m1.c65;have HP2:=Lib.hid ((m1.below (Below.refl _ _).drew).pop (l:=l) rfl (by omega));have HF1:=Lib.hid f1;clear m1 f1;go_wp2_with fail
 first|(go_region_held3(fun W=>W.cell? ⟨b,65,none⟩=some (.pointer (some ⟨M.p,0,none⟩)))
  (first|assumption)
  (first
   | (go_at_call 119;refine HP2.out.mono ?_;rintro e w2⟨rfl,vo2,m2,f2,-,-⟩;have d65:=m2.c65;have HL:=Lib.hid (store2_mem m2.mem hx hy);have HM2:=Lib.hid m2;have HF2:=Lib.hid f2;clear m2 f2)
   | (go_at_call 127; refine HL.out.mono ?_; rintro e w4 ⟨rfl, vt3, m3, f3⟩; have hm3 := HM2.out.liftM m3 f3; have e65 := hm3.c65; have HM4 := Lib.hid hm3; have HF3 := Lib.hid (frM f3 b vo2); clear hm3 m3 f3))) | fail "held"
 have c67:=HM4.out.o.m.cells.c67;have cf:=HM4.out.o.m.cells.fz;simp only[macV]at c67;go_wp2_with fail
 go_end0
 have:=HM4.out.setPc (s.pc+1);refine⟨rfl,vo2,vt3,by simpa using this,?_⟩;exact(((((Fr.of HB1.out _).trans HF1.out).drew).trans HF2.out).trans HF3.out).trans (frB w4 b vo2 M vt3 67 _)
theorem store4_act {l:List Nat} {x y:Nat} (h:Mach w b K s vo R M vt logs tou) (ho:s.ops=l++[x]++[y]) (hx:x<4294967296) (hy:y<4294967296) (hn:l.length≤65535) (hp:s.pc<4294967295) (o a:Nat) :
 Calls Tryz.prog 88 #[.pointer (some ⟨b,0,none⟩),.agg #[.int .u8 o,.int .u32 a]] w (ActOk b K R M logs tou vo vt w ({s with ops:=l,data:=storeN s.data x y 4,pc:=s.pc+1},touN M.N x 4 true)):=by
 have hmx:Tryz.prog.follows .mixedOrders=true:=by kernel_rfl
 have HP:=Lib.hid ((h.below (Bel.new w (.cells #[.int .u8 o,.int .u32 a] 106))).pop ho (by simp;omega));have HB1:=Lib.hid (Bel.new w (.cells #[.int .u8 o,.int .u32 a] 106));have hw:IntKind.u32.wrap ((s.pc:Int)+1)=(s.pc:Int)+1:=by rw[IntKind.wrap_u32];omega
 clear h ho;go_enter Tryz.func88,Tryz.ntmps88;go_wp2_with fail;refine HP.out.mono ?_;rintro e w1⟨rfl,vo1,m1,f1,-,-⟩;have c65:=m1.c65;have HP2:=Lib.hid ((m1.below (Below.refl _ _).drew).pop (l:=l) rfl (by omega));have HF1:=Lib.hid f1;clear m1 f1;go_wp2_with fail
 first|(go_region_held3(fun W=>W.cell? ⟨b,65,none⟩=some (.pointer (some ⟨M.p,0,none⟩)))
  (first|assumption)
  (first
   | (go_at_call 119;refine HP2.out.mono ?_;rintro e w2⟨rfl,vo2,m2,f2,-,-⟩;have d65:=m2.c65;have HL:=Lib.hid (store4_mem m2.mem hx hy);have HM2:=Lib.hid m2;have HF2:=Lib.hid f2;clear m2 f2)
   | (go_at_call 48; refine HL.out.mono ?_; rintro e w4 ⟨rfl, vt3, m3, f3⟩; have hm3 := HM2.out.liftM m3 f3; have e65 := hm3.c65; have HM4 := Lib.hid hm3; have HF3 := Lib.hid (frM f3 b vo2); clear hm3 m3 f3))) | fail "held"
 have c67:=HM4.out.o.m.cells.c67;have cf:=HM4.out.o.m.cells.fz;simp only[macV]at c67;go_wp2_with fail
 go_end0
 have:=HM4.out.setPc (s.pc+1);refine⟨rfl,vo2,vt3,by simpa using this,?_⟩;exact(((((Fr.of HB1.out _).trans HF1.out).drew).trans HF2.out).trans HF3.out).trans (frB w4 b vo2 M vt3 67 _)
theorem arg_act {l:List Nat} {x:Nat} (h:Mach w b K s vo R M vt logs tou) (ho:s.ops=l++[x]) (hx:x<4294967296) (hn:l.length≤65535) (hp:s.pc<4294967295) (o a:Nat) :
 Calls Tryz.prog 82 #[.pointer (some ⟨b,0,none⟩),.agg #[.int .u8 o,.int .u32 a]] w (ActOk b K R M logs tou vo vt w ({s with ops:=l,data:=storeN s.data ((s.sp+4+4*a)%4294967296) x 4,pc:=s.pc+1},touN M.N ((s.sp+4+4*a)%4294967296) 4 true)):=by
 have hmx:Tryz.prog.follows .mixedOrders=true:=by kernel_rfl
 obtain⟨W1,hW1⟩:∃W1,W1=w.alloc (.cells #[.int .u8 o,.int .u32 a] 106):=⟨_,rfl⟩;have hb1:Below w.heap.size w W1:=by rw[hW1];exact Bel.new _ _
 have hh1:W1.heap[w.heap.size]?=some (.cells #[.int .u8 o,.int .u32 a] 106 (0,0)):=by rw[hW1];exact heap_alloc_new _ _
 have d1:=cell_of_row W1 w.heap.size 1 _ _ _ hh1;have H1:=(h.below hb1).below (Below.refl _ _).drew;have c65:=(h.below hb1).c65;have c68:=(h.below hb1).o.m.cells.c68;simp only[macV]at c68;have hlt:=h.lt;have HML:=Lib.hid h.mem.flt;have HP:=Lib.hid (H1.pop ho (by omega));have HB1:=Lib.hid hb1;have HH1:=Lib.hid hh1;have hw:IntKind.u32.wrap ((s.pc:Int)+1)=(s.pc:Int)+1:=by rw[IntKind.wrap_u32];omega
 obtain⟨q,hq⟩:∃q,q=(s.sp+4+4*a)%4294967296:=⟨_,rfl⟩;have hqv:IntKind.u32.wrap (IntKind.u32.wrap ((s.sp:Int)+4)+IntKind.u32.wrap (4*(a:Int)))=(q:Int):=by simp only[IntKind.wrap_u32];omega
 have hq9:q<4294967296:=by omega
 rw[←hq];clear h hb1 H1 ho hh1 hq;go_enter Tryz.func82,Tryz.ntmps82;go_wp2_with fail;rw[←hW1];clear hW1
 first|(go_region_held3(fun W=>W.cell? ⟨b,65,none⟩=some (.pointer (some ⟨M.p,0,none⟩))∧W.cell? ⟨b,68,none⟩=some (.int .u32 s.sp)∧W.cell? ⟨w.heap.size,1,none⟩=some (.int .u32 a))
  (first|assumption|exact⟨by assumption,by assumption,by assumption⟩)
  (first
   | (go_at_call 119;refine HP.out.mono ?_;rintro e w2⟨rfl,vo2,m2,f2,fb,-⟩;have d65:=m2.c65;have d68:=m2.o.m.cells.c68;simp only[macV]at d68;have dd:=cell_of_row w2 w.heap.size 1 _ _ _ (fb.row (HH1.out:W1.drew.heap[w.heap.size]?=_) (by omega));have HL:=Lib.hid (store4_mem m2.mem hq9 hx);have HM2:=Lib.hid m2;have HF2:=Lib.hid f2;have HD2:=Lib.hid (fb.row (HH1.out:W1.drew.heap[w.heap.size]?=_) (by omega));clear m2 f2 fb)
   | (go_at_call 48; refine HL.out.mono ?_; rintro e w4 ⟨rfl, vt3, m3, f3⟩; have hm3 := HM2.out.liftM m3 f3; have e65 := hm3.c65; have e68 := hm3.o.m.cells.c68; simp only [macV] at e68; have ee := cell_of_row w4 w.heap.size 1 _ _ _ (f3.row HD2.out (fun hk => Nat.lt_irrefl _ (HML.out _ hk))); have HM4 := Lib.hid hm3; have HF3 := Lib.hid (frM f3 b vo2); clear hm3 m3 f3))) | fail "held"
 have c67:=HM4.out.o.m.cells.c67;have cf:=HM4.out.o.m.cells.fz;simp only[macV]at c67;go_wp2_with fail
 go_end0
 have:=HM4.out.setPc (s.pc+1);refine⟨rfl,vo2,vt3,by simpa using this,?_⟩;exact((((Fr.of HB1.out _).drew.trans HF2.out).trans HF3.out)).trans (frB w4 b vo2 M vt3 67 _)
end
section
variable {w:World} {b:Nat} {K:MacK} {s:St} {vo:Value} {R:MacR} {M:MemK} {vt:Value} {logs:Bool} {tou:List (Nat×Bool)}
theorem Mach.nil (h:Mach w b K s vo R M vt logs tou):Mach w b K s vo R M vt logs (touL logs tou []):=by rw[touL_nil logs h.mem.tl];exact h
theorem nop_ok (h:Mach w b K s vo R M vt logs tou) (hp:s.pc<4294967295) (o a:Nat) :
 Calls Tryz.prog 71 #[.pointer (some ⟨b,0,none⟩),.agg #[.int .u8 o,.int .u32 a]] w (ActOk b K R M logs tou vo vt w ({s with pc:=s.pc+1},[])):=by
 refine(nop_act h.o.m hp o a).mono ?_;rintro e w'⟨rfl,hm,hf⟩;refine⟨rfl,vo,vt,(h.lift (s':={s with pc:=s.pc+1}) ⟨hm,own_fr h.o.o hf (fun g e e2=>h.o.m.not_own h.o.o (by decide) (by rw[←e2];exact e))⟩ rfl (hf.mono (G1:=fun k=>k=b) (fun i e=>.inl e) (fun i e=>.inl (.inl e)))).nil,frP hf rfl M vt⟩
theorem goto_ok (h:Mach w b K s vo R M vt logs tou) (o a:Nat) :
 Calls Tryz.prog 76 #[.pointer (some ⟨b,0,none⟩),.agg #[.int .u8 o,.int .u32 a]] w (ActOk b K R M logs tou vo vt w ({s with pc:=a},[])):=by
 refine(goto_act h.o.m o a).mono ?_;rintro e w'⟨rfl,hm,hf⟩;refine⟨rfl,vo,vt,(h.lift (s':={s with pc:=a}) ⟨hm,own_fr h.o.o hf (fun g e e2=>h.o.m.not_own h.o.o (by decide) (by rw[←e2];exact e))⟩ rfl (hf.mono (G1:=fun k=>k=b) (fun i e=>.inl e) (fun i e=>.inl (.inl e)))).nil,frP hf rfl M vt⟩
theorem constant_ok (h:Mach w b K s vo R M vt logs tou) (hn:s.ops.length≤65536) (hp:s.pc<4294967295) (o a:Nat) :
 Calls Tryz.prog 78 #[.pointer (some ⟨b,0,none⟩),.agg #[.int .u8 o,.int .u32 a]] w (ActOk b K R M logs tou vo vt w ({s with ops:=s.ops++[a],pc:=s.pc+1},[])):=by
 refine(constant_act h.o hn hp o a).mono ?_;rintro e w'⟨rfl,v',hm,hf⟩;exact⟨rfl,v',vt,(h.lift (s':={s with ops:=s.ops++[a],pc:=s.pc+1}) hm rfl hf).nil,frO hf M vt⟩
theorem local_ok (h:Mach w b K s vo R M vt logs tou) (hn:s.ops.length≤65536) (hp:s.pc<4294967295) (o a:Nat) :
 Calls Tryz.prog 79 #[.pointer (some ⟨b,0,none⟩),.agg #[.int .u8 o,.int .u32 a]] w (ActOk b K R M logs tou vo vt w ({s with ops:=s.ops++[(s.sp+a)%4294967296],pc:=s.pc+1},[])):=by
 refine(local_act h.o hn hp o a).mono ?_;rintro e w'⟨rfl,v',hm,hf⟩;exact⟨rfl,v',vt,(h.lift (s':={s with ops:=s.ops++[(s.sp+a)%4294967296],pc:=s.pc+1}) hm rfl hf).nil,frO hf M vt⟩
theorem drop_ok {l:List Nat} {x:Nat} (h:Mach w b K s vo R M vt logs tou) (ho:s.ops=l++[x]) (hn:l.length≤65536) (hp:s.pc<4294967295) (o a:Nat) :
 Calls Tryz.prog 80 #[.pointer (some ⟨b,0,none⟩),.agg #[.int .u8 o,.int .u32 a]] w (ActOk b K R M logs tou vo vt w ({s with ops:=l,pc:=s.pc+1},[])):=by
 obtain⟨life,pc,sp,ops,data,value,fault⟩:=s;simp only at ho;subst ho;refine(drop_act h.o hn hp o a).mono ?_;rintro e w'⟨rfl,v',hm,hf,hv⟩;exact⟨rfl,v',vt,(h.lift (s':=⟨life,pc+1,sp,l,data,value,fault⟩) hm rfl (hf.mono (G1:=fun k=>k=b) (fun i e=>.inl e) (fun i e=>.inl (.inl e)))).nil,frP hf hv M vt⟩
theorem dup_ok {l:List Nat} {x:Nat} (h:Mach w b K s vo R M vt logs tou) (ho:s.ops=l++[x]) (hn:l.length+1≤65536) (hp:s.pc<4294967295) (o a:Nat) :
 Calls Tryz.prog 81 #[.pointer (some ⟨b,0,none⟩),.agg #[.int .u8 o,.int .u32 a]] w (ActOk b K R M logs tou vo vt w ({s with ops:=l++[x]++[x],pc:=s.pc+1},[])):=by
 obtain⟨life,pc,sp,ops,data,value,fault⟩:=s;simp only at ho;subst ho;refine(dup_act h.o hn hp o a).mono ?_;rintro e w'⟨rfl,v',hm,hf⟩;exact⟨rfl,v',vt,(h.lift (s':=⟨life,pc+1,sp,l++[x]++[x],data,value,fault⟩) hm rfl hf).nil,frO hf M vt⟩
theorem copy_ok {l:List Nat} {x y:Nat} (h:Mach w b K s vo R M vt logs tou) (ho:s.ops=l++[x]++[y]) (hx:x<4294967296) (hy:y<4294967296) (hn:l.length≤65535) (hp:s.pc<4294967295) (o a:Nat) (ha:a≤4096) :
 Calls Tryz.prog 89 #[.pointer (some ⟨b,0,none⟩),.agg #[.int .u8 o,.int .u32 a]] w (ActOk b K R M logs tou vo vt w ({s with ops:=l,data:=writeN s.data x (bytesN s.data y a),pc:=s.pc+1},touN M.N y a false++touN M.N x a true)):=by
 have hmx:Tryz.prog.follows .mixedOrders=true:=by kernel_rfl
 have HP:=Lib.hid ((h.below (Bel.new w (.cells #[.int .u8 o,.int .u32 a] 106))).pop ho (by simp;omega));have HB1:=Lib.hid (Bel.new w (.cells #[.int .u8 o,.int .u32 a] 106));have HH1:=Lib.hid (heap_alloc_new w (.cells #[.int .u8 o,.int .u32 a] 106 (0,0)));have hlt:=h.lt;have HML:=Lib.hid h.mem.flt;have hw:IntKind.u32.wrap ((s.pc:Int)+1)=(s.pc:Int)+1:=by rw[IntKind.wrap_u32];omega
 clear h ho;go_enter Tryz.func89,Tryz.ntmps89;go_wp2_with fail;refine HP.out.mono ?_;rintro e w1⟨rfl,vo1,m1,f1,fb,-⟩;have c65:=m1.c65;have hh1:=fb.row HH1.out (by omega);have d1:=cell_of_row w1 w.heap.size 1 _ _ _ hh1;have HH2:=Lib.hid (hh1:w1.drew.heap[w.heap.size]?=_);have HP2:=Lib.hid ((m1.below (Below.refl _ _).drew).pop (l:=l) rfl (by omega));have HF1:=Lib.hid f1;clear m1 f1 fb hh1;go_wp2_with fail
 first|(go_region_held3(fun W=>W.cell? ⟨b,65,none⟩=some (.pointer (some ⟨M.p,0,none⟩))∧W.cell? ⟨w.heap.size,1,none⟩=some (.int .u32 a))
  (first|assumption|exact⟨by assumption,by assumption⟩)
  (first
   | (go_at_call 119;refine HP2.out.mono ?_;rintro e w2⟨rfl,vo2,m2,f2,fb2,-⟩;have d65:=m2.c65;have dd:=cell_of_row w2 w.heap.size 1 _ _ _ (fb2.row HH2.out (by omega));have HL:=Lib.hid (copy_mem m2.mem hx hy ha);have HM2:=Lib.hid m2;have HF2:=Lib.hid f2;have HD2:=Lib.hid (fb2.row HH2.out (by omega));clear m2 f2 fb2)
   | (go_at_call 128; refine HL.out.mono ?_; rintro e w4 ⟨rfl, vt3, m3, f3⟩; have hm3 := HM2.out.liftM m3 f3; have e65 := hm3.c65; have ee := cell_of_row w4 w.heap.size 1 _ _ _ (f3.row HD2.out (fun hk => Nat.lt_irrefl _ (HML.out _ hk))); have HM4 := Lib.hid hm3; have HF3 := Lib.hid (frM f3 b vo2); clear hm3 m3 f3))) | fail "held"
 have c67:=HM4.out.o.m.cells.c67;have cf:=HM4.out.o.m.cells.fz;simp only[macV]at c67;go_wp2_with fail
 go_end0
 have:=HM4.out.setPc (s.pc+1);refine⟨rfl,vo2,vt3,by simpa using this,?_⟩;exact(((((Fr.of HB1.out _).trans HF1.out).drew).trans HF2.out).trans HF3.out).trans (frB w4 b vo2 M vt3 67 _)
theorem halt_flt (h:Mach w b K s vo R M vt logs tou) (o a:Nat) :
 Calls Tryz.prog 72 #[.pointer (some ⟨b,0,none⟩),.agg #[.int .u8 o,.int .u32 a]] w (ActFlt b K s R M logs tou vo vt w 1 []):=by
 have H:=Lib.hid ((h.below (Bel.new w (.cells #[.int .u8 o,.int .u32 a] 106))).nil);clear h;go_enter Tryz.func72,Tryz.ntmps72;go_wp2_with fail;exact⟨rfl,rfl,vo,vt,H.out.o.m,H.out.o.o,H.out.mem,Fr.of (Bel.new _ _) _⟩
theorem enter_flt (h:Mach w b K s vo R M vt logs tou) (o a:Nat) (ha:a<4294967296) (hs:s.sp<4294967296) (hf:K.floor<4294967296) (hc:s.sp<K.floor+a) :
 Calls Tryz.prog 73 #[.pointer (some ⟨b,0,none⟩),.agg #[.int .u8 o,.int .u32 a]] w (ActFlt b K s R M logs tou vo vt w 6 []):=by
 have H:=Lib.hid (fun W (hW:Below w.heap.size w W)=>(h.below hW).nil);have c68:=h.o.m.cells.c68;have c63:=h.o.m.cells.c63;have cf:=h.o.m.cells.fz;have hlt:=h.lt;simp only[macV]at c68;have w1:IntKind.i64.wrap (s.sp:Int)=(s.sp:Int):=IntWalk.i64_in _ (by omega);have w2:IntKind.i64.wrap (a:Int)=(a:Int):=IntWalk.i64_in _ (by omega);have w3:IntKind.i64.wrap (K.floor:Int)=(K.floor:Int):=IntWalk.i64_in _ (by omega);have w4:IntKind.i64.wrap ((s.sp:Int) - (a:Int))=(s.sp:Int) - (a:Int):=IntWalk.i64_in _ (by omega);have hlss:(s.sp:Int) - (a:Int)<(K.floor:Int):=by omega
 clear h;go_enter Tryz.func73,Tryz.ntmps73;go_wp2_with fail
 go_quiet(fail)
 have hbb:Below w.heap.size w ((w.alloc (.cells #[.int .u8 o,.int .u32 a] 106)).drewN nq):=below_drewN (Bel.new w _) nq;obtain⟨W,hW⟩:∃W,W=(w.alloc (.cells #[.int .u8 o,.int .u32 a] 106)).drewN nq:=⟨_,rfl⟩;rw[←hW]at hbb⊢;have HQ:=Lib.hid hbb;clear hW hbb;go_wp2_with fail;exact⟨rfl,rfl,vo,vt,(H.out _ HQ.out).o.m,(H.out _ HQ.out).o.o,(H.out _ HQ.out).mem,Fr.of HQ.out _⟩
theorem enter_ok (h:Mach w b K s vo R M vt logs tou) (hp:s.pc<4294967295) (o a:Nat) (ha:a<4294967296) (hs:s.sp<4294967296) (hf:K.floor<4294967296) (hc:K.floor+a≤s.sp) :
 Calls Tryz.prog 73 #[.pointer (some ⟨b,0,none⟩),.agg #[.int .u8 o,.int .u32 a]] w (ActOk b K R M logs tou vo vt w ({s with sp:=s.sp - a,pc:=s.pc+1},[])):=by
 have hmx:Tryz.prog.follows .mixedOrders=true:=by kernel_rfl
 obtain⟨W1,hW1⟩:∃W1,W1=w.alloc (.cells #[.int .u8 o,.int .u32 a] 106):=⟨_,rfl⟩;have hb1:Below w.heap.size w W1:=by rw[hW1];exact Bel.new _ _
 have hh1:W1.heap[w.heap.size]?=some (.cells #[.int .u8 o,.int .u32 a] 106 (0,0)):=by rw[hW1];exact heap_alloc_new _ _
 have d1:=cell_of_row W1 w.heap.size 1 _ _ _ hh1;have H:=Lib.hid (fun W (hW:Below w.heap.size w W)=>h.below hW);have c68:=(h.below hb1).o.m.cells.c68;have c63:=(h.below hb1).o.m.cells.c63;have cf:=(h.below hb1).o.m.cells.fz;have hlt:=h.lt;simp only[macV]at c68;have w1:IntKind.i64.wrap (s.sp:Int)=(s.sp:Int):=IntWalk.i64_in _ (by omega);have w2:IntKind.i64.wrap (a:Int)=(a:Int):=IntWalk.i64_in _ (by omega);have w3:IntKind.i64.wrap (K.floor:Int)=(K.floor:Int):=IntWalk.i64_in _ (by omega);have w4:IntKind.i64.wrap ((s.sp:Int) - (a:Int))=(s.sp:Int) - (a:Int):=IntWalk.i64_in _ (by omega);have w5:IntKind.u32.wrap ((s.sp:Int) - (a:Int))=((s.sp - a:Nat):Int):=by rw[IntKind.wrap_u32];omega
 have hlss:¬(s.sp:Int) - (a:Int)<(K.floor:Int):=by omega
 have hw:IntKind.u32.wrap ((s.pc:Int)+1)=(s.pc:Int)+1:=by rw[IntKind.wrap_u32];omega
 have HB1:=Lib.hid hb1;generalize s.sp - a=q at*;have HH1:=Lib.hid hh1;clear h hb1 hh1;go_enter Tryz.func73,Tryz.ntmps73;go_wp2_with fail;rw[←hW1];clear hW1
 go_quiet(fail)
 have hbb:Below w.heap.size w (W1.drewN nq):=below_drewN HB1.out nq;have hh2:(W1.drewN nq).heap[w.heap.size]?=some (.cells #[.int .u8 o,.int .u32 a] 106 (0,0)):=HH1.out;clear c68 d1 cf c63;obtain⟨W2,hW2⟩:∃W2,W2=W1.drewN nq:=⟨_,rfl⟩;rw[←hW2]at hbb hh2⊢;have c68:=(H.out _ hbb).o.m.cells.c68;have c67:=(H.out _ hbb).o.m.cells.c67;have cf:=(H.out _ hbb).o.m.cells.fz;simp only[macV]at c68 c67;have d1:=cell_of_row W2 w.heap.size 1 _ _ _ hh2;have HQ:=Lib.hid hbb;clear hW2 hbb hh2 HH1;go_wp2_with fail;refine wp_region_still_tail 9 hmx (by kernel_rfl) ?_;simp only[List.take_succ_cons,List.take_zero,List.drop_succ_cons,List.drop_zero]
 repeat still_step
 refine wpStill_nil ?_;change wpList _ _ _ _ _ W2.drew;go_wp2_with fail
 go_end0
 have:=(((H.out _ HQ.out).setSp q).setPc (s.pc+1)).below (Below.refl _ _).drew;refine⟨rfl,vo,vt,(by simpa using this:Mach _ _ _ _ _ _ _ _ _ _).nil,?_⟩;exact(((Fr.of HQ.out _).trans (frB W2 b vo M vt 68 _)).trans (frB _ b vo M vt 67 _)).drew
end
section
variable {w:World} {b:Nat} {K:MacK} {s:St} {vo:Value} {R:MacR} {M:MemK} {vt:Value} {logs:Bool} {tou:List (Nat×Bool)}
theorem unary_ok {l:List Nat} {x:Nat} (h:Mach w b K s vo R M vt logs tou) (ho:s.ops=l++[x]) (hn:l.length≤65535) (hp:s.pc<4294967295) (o a:Nat) :
 Calls Tryz.prog 90 #[.pointer (some ⟨b,0,none⟩),.agg #[.int .u8 o,.int .u32 a]] w (ActOk b K R M logs tou vo vt w ({s with ops:=l++[unW o x],pc:=s.pc+1},[])):=by
 have hmx:Tryz.prog.follows .mixedOrders=true:=by kernel_rfl
 obtain⟨W1,hW1⟩:∃W1,W1=w.alloc (.cells #[.int .u8 o,.int .u32 a] 106):=⟨_,rfl⟩;have hb1:Below w.heap.size w W1:=by rw[hW1];exact Bel.new _ _
 have hh1:W1.heap[w.heap.size]?=some (.cells #[.int .u8 o,.int .u32 a] 106 (0,0)):=by rw[hW1];exact heap_alloc_new _ _
 have d0:=cell_of_row W1 w.heap.size 0 _ _ _ hh1;have HP:=Lib.hid (((h.below hb1).below (Below.refl _ _).drew).pop ho (by omega));have HB1:=Lib.hid hb1;have HH1:=Lib.hid hh1;have hlt:=h.lt;have hw:IntKind.u32.wrap ((s.pc:Int)+1)=(s.pc:Int)+1:=by rw[IntKind.wrap_u32];omega
 have HN:=Lib.hid (fun W=>unary_any o x W);generalize unW o x=y at*;generalize unE o=z at*;clear h hb1 hh1 ho;go_enter Tryz.func90,Tryz.ntmps90;go_wp2_with fail;rw[←hW1];clear hW1
 first|(go_region_held3(fun W=>W.cell? ⟨w.heap.size,0,none⟩=some (.int .u8 o))
  (first|assumption)
  (first
   | (go_at_call 119;refine HP.out.mono ?_;rintro e w2⟨rfl,vo2,m2,f2,fb,-⟩;have dd:=cell_of_row w2 w.heap.size 0 _ _ _ (fb.row (HH1.out:W1.drew.heap[w.heap.size]?=_) (by omega));have HU:=Lib.hid (m2.push (show l.length≤65536 by omega) y);have HF2:=Lib.hid f2;clear m2 f2 fb)
   | (go_at_call 129; refine (HN.out _).mono ?_; rintro e w3 ⟨rfl, rfl⟩))) | fail "held"
 go_wp2_with fail;refine HU.out.mono ?_;rintro e w4⟨rfl,vo4,m4,f4⟩;have HM4:=Lib.hid m4;have HF4:=Lib.hid f4;clear m4 f4;have c67:=HM4.out.o.m.cells.c67;have cf:=HM4.out.o.m.cells.fz;simp only[macV]at c67;go_wp2_with fail
 go_end0
 have:=HM4.out.setPc (s.pc+1);refine⟨rfl,vo4,vt,(by simpa using this:Mach _ _ _ _ _ _ _ _ _ _).nil,?_⟩;exact(((Fr.of HB1.out _).drew.trans HF2.out).trans HF4.out).trans (frB w4 b vo4 M vt 67 _)
theorem branch_ok {l:List Nat} {x y:Nat} (h:Mach w b K s vo R M vt logs tou) (ho:s.ops=l++[x]++[y]) (hn:l.length≤65535) (hp:s.pc<4294967295) (o a:Nat) (h13:13≤o) (h28:o≤28) :
 Calls Tryz.prog 91 #[.pointer (some ⟨b,0,none⟩),.agg #[.int .u8 o,.int .u32 a]] w (ActOk b K R M logs tou vo vt w ({s with ops:=l,pc:=if hoB o x y then a else s.pc+1},[])):=by
 have HP:=Lib.hid ((h.below (Bel.new w (.cells #[.int .u8 o,.int .u32 a] 106))).pop ho (by simp;omega));have HB1:=Lib.hid (Bel.new w (.cells #[.int .u8 o,.int .u32 a] 106));have HH1:=Lib.hid (heap_alloc_new w (.cells #[.int .u8 o,.int .u32 a] 106 (0,0)));have hlt:=h.lt;have hw:IntKind.u32.wrap ((s.pc:Int)+1)=(s.pc:Int)+1:=by rw[IntKind.wrap_u32];omega
 have HN:=Lib.hid (fun W=>holds_any o x y h13 h28 W);obtain⟨q,hq⟩:∃q,q=hoB o x y:=⟨_,rfl⟩;rw[←hq]at HN⊢;obtain⟨pn,hpn⟩:∃pn,pn=if q then a else s.pc+1:=⟨_,rfl⟩;rw[←hpn];have HQ:=Lib.hid hpn;clear h ho hq h13 h28 hpn;go_enter Tryz.func91,Tryz.ntmps91;go_wp2_with fail;refine HP.out.mono ?_;rintro e w1⟨rfl,vo1,m1,f1,fb,-⟩;have HH2:=Lib.hid (fb.row HH1.out (by omega));have HP2:=Lib.hid (m1.pop (l:=l) rfl (by omega));have HF1:=Lib.hid f1;clear m1 f1 fb;go_wp2_with fail;refine HP2.out.mono ?_;rintro e w2⟨rfl,vo2,m2,f2,fb2,-⟩;have hh2:=fb2.row HH2.out (by omega);have d0:=cell_of_row w2 w.heap.size 0 _ _ _ hh2;have d1:=cell_of_row w2 w.heap.size 1 _ _ _ hh2;have c67:=m2.o.m.cells.c67;have cf:=m2.o.m.cells.fz;simp only[macV]at c67;have HM2:=Lib.hid m2;have HF2:=Lib.hid f2;clear m2 f2 fb2 hh2;go_wp2_with fail;refine(HN.out _).mono ?_;rintro e w3⟨rfl,rfl⟩;cases q
 ·go_wp2_with fail
  go_end0
  have e9:pn=s.pc+1:=HQ.out;rw[e9];have:=HM2.out.setPc (s.pc+1);refine⟨rfl,vo2,vt,(by simpa using this:Mach _ _ _ _ _ _ _ _ _ _).nil,?_⟩;exact(((Fr.of HB1.out _).trans HF1.out).trans HF2.out).trans (frB w2 b vo2 M vt 67 _)
 ·go_wp2_with fail
  go_end0
  have e9:pn=a:=HQ.out;rw[e9];have:=(HM2.out.setPc (s.pc+1)).setPc a;refine⟨rfl,vo2,vt,(by simpa using this:Mach _ _ _ _ _ _ _ _ _ _).nil,?_⟩;exact((((Fr.of HB1.out _).trans HF1.out).trans HF2.out).trans (frB w2 b vo2 M vt 67 _)).trans (frB _ b vo2 M vt 67 _)
end
theorem own_take {w:World} {B:Nat} {e:TypeId} {sz n c:Nat} {a:Option Addr} {xs:List Value} (h:w.ownsRow B e sz (.slice a n c) n xs) {k:Nat} (hk:k≤n) (h0:0<k∨a≠none∨c=0):w.ownsRow B e sz (.slice a k c) k (xs.take (k*sz)):=by
 obtain⟨hl,h2⟩:=h;refine⟨by rw[List.length_take,hl];exact Nat.min_eq_left (Nat.mul_le_mul_right _ hk),?_⟩;rcases h2 with⟨h1,h2⟩|⟨g,cap,cur,h1,hb,hg,hnc,hm,hcs,ht⟩
 ·cases h1
  have:k=0:=by omega
  subst this;exact .inl ⟨rfl,rfl⟩
 ·cases h1
  refine .inr ⟨g,c,cur,rfl,hb,hg,by omega,hm,hcs,?_⟩;rw[←ht,List.take_take];congr 1;exact(Nat.min_eq_left (Nat.mul_le_mul_right _ hk)).symm
section
variable {w:World} {b:Nat} {K:MacK} {s:St} {vo:Value} {R:MacR} {M:MemK} {vt:Value} {logs:Bool} {tou:List (Nat×Bool)}
theorem Mach.top2 {l:List Nat} {x y:Nat} (h:Mach w b K s vo R M vt logs tou) (ho:s.ops=l++[x]++[y]):∃g cap,vo=.slice (some ⟨g,0,none⟩) (l.length+2) cap∧l.length+2≤cap∧w.cell? ⟨g,l.length,none⟩=some (.int .u32 x)∧w.cell? ⟨g,l.length+1,none⟩=some (.int .u32 y)∧
 w.ownsRow 0 25 1 (.slice (some ⟨g,0,none⟩) l.length cap) l.length (encN .u32 l):=by
 have hr:w.ownsRow 0 25 1 vo s.ops.length (encN .u32 s.ops):=h.o.o;rw[ho,show(l++[x]++[y]).length=l.length+2 from by simp]at hr;obtain⟨g,cap,hv,hgl,hcap,-,hc⟩:=own_form hr (by omega);refine⟨g,cap,hv,by omega,?_,?_,?_⟩
 ·rw[hc l.length (by rw[encN_length];simp),encN_at .u32 _ l.length (by simp)];simp
 ·rw[hc (l.length+1) (by rw[encN_length];simp),encN_at .u32 _ (l.length+1) (by simp)];simp
 ·rw[hv]at hr
  have:=own_take hr (k:=l.length) (by omega) (.inr (.inl (by simp)));rw[Nat.mul_one,List.append_assoc,encN_append,List.take_append_of_le_length (by rw[encN_length];omega),List.take_of_length_le (by rw[encN_length];omega)]at this;exact this
theorem binary_flt {l:List Nat} {x y:Nat} (h:Mach w b K s vo R M vt logs tou) (ho:s.ops=l++[x]++[y]) (hy:y<4294967296) (hn:l.length≤65535) (o a:Nat) (hr:(biR o x y).2≠0) :
 Calls Tryz.prog 92 #[.pointer (some ⟨b,0,none⟩),.agg #[.int .u8 o,.int .u32 a]] w (ActFlt b K s R M logs tou vo vt w 2 []):=by
 have hmx:Tryz.prog.follows .mixedOrders=true:=by kernel_rfl
 obtain⟨W1,hW1⟩:∃W1,W1=w.alloc (.cells #[.int .u8 o,.int .u32 a] 106):=⟨_,rfl⟩;have hb1:Below w.heap.size w W1:=by rw[hW1];exact Bel.new _ _
 have hh1:W1.heap[w.heap.size]?=some (.cells #[.int .u8 o,.int .u32 a] 106 (0,0)):=by rw[hW1];exact heap_alloc_new _ _
 have d0:=cell_of_row W1 w.heap.size 0 _ _ _ hh1;have H:=Lib.hid (fun W (hW:Below w.heap.size w W)=>(h.below hW).nil);obtain⟨g,cap,hv,hcap,k0,k1,-⟩:=(h.below hb1).top2 ho;have c69:=(h.below hb1).o.m.cells.c69;have hv0:=hv;have c69w:=h.o.m.cells.c69;have hlt:=h.lt;simp only[macV]at c69 c69w;rw[hv]at c69 c69w;obtain⟨n,hnn⟩:∃n,n=l.length:=⟨_,rfl⟩;rw[←hnn]at c69 c69w k0 k1 hn hcap;have HB1:=Lib.hid hb1;have hbl:b<W1.heap.size:=Nat.lt_of_lt_of_le hlt hb1.size;have hgl:g<W1.heap.size:=World.block_lt_of_cell? _ _ k0;have hwl:w.heap.size<W1.heap.size:=(Array.getElem?_eq_some_iff.1 hh1).1;have e1:((n:Int)+2) - 2=(n:Int):=by omega
 have e2:((n:Int)+2) - 1=(n:Int)+1:=by omega
 have w1:IntKind.i64.wrap (n:Int)=(n:Int):=IntWalk.i64_in _ (by omega);have w2:IntKind.i64.wrap ((n:Int)+1)=(n:Int)+1:=IntWalk.i64_in _ (by omega);have hlt1:(n:Int)<(n:Int)+2:=by omega
 have hlt2:(n:Int)+1<(n:Int)+2:=by omega
 have hn1:(0:Int)≤(n:Int):=by omega
 have hn2:(0:Int)≤(n:Int)+1:=by omega
 have hlt3:n<n+2:=by omega
 have hlt4:n+1<n+2:=by omega
 have htn:((n:Int)+1).toNat=n+1:=by omega
 have HN:=Lib.hid (fun W=>binary_any o x y hy W);have hre:((biR o x y).2:Int)≠0:=by omega
 generalize (biR o x y).1=q at*;generalize (biR o x y).2=z at*;clear h ho hr hb1 hh1 hv hv0 hnn hy hcap;go_enter Tryz.func92,Tryz.ntmps92;go_wp2_with fail;rw[←hW1];clear hW1
 first|(go_region_held3(fun W=>W.cell? ⟨b,69,none⟩=some (.slice (some ⟨g,0,none⟩) (n+2) cap)∧W.cell? ⟨g,n,none⟩=some (.int .u32 x)∧W.cell? ⟨g,n+1,none⟩=some (.int .u32 y)∧W.cell? ⟨w.heap.size,0,none⟩=some (.int .u8 o))
  (first|assumption|exact⟨by assumption,by assumption,by assumption,by assumption⟩)
  ((go_at_call 131; refine (HN.out _).mono ?_; rintro e w3 ⟨rfl, hb3⟩; have x1 := (hb3.cell (p := ⟨b, 69, none⟩) hbl).trans c69; have x2 := (hb3.cell (p := ⟨g, n, none⟩) hgl).trans k0; have x3 := (hb3.cell (p := ⟨g, n + 1, none⟩) hgl).trans k1; have x4 := (hb3.cell (p := ⟨w.heap.size, 0, none⟩) hwl).trans d0; have HB3 := Lib.hid (Bel.tr (HB1.out.drew) hb3); clear hb3))) | fail "held"
 go_wp2_with fail;exact⟨rfl,rfl,vo,vt,(H.out _ HB3.out).o.m,(H.out _ HB3.out).o.o,(H.out _ HB3.out).mem,Fr.of HB3.out _⟩
theorem binary_ok {l:List Nat} {x y:Nat} (h:Mach w b K s vo R M vt logs tou) (ho:s.ops=l++[x]++[y]) (hy:y<4294967296) (hn:l.length≤65535) (hp:s.pc<4294967295) (o a:Nat) (hr:(biR o x y).2=0) :
 Calls Tryz.prog 92 #[.pointer (some ⟨b,0,none⟩),.agg #[.int .u8 o,.int .u32 a]] w (ActOk b K R M logs tou vo vt w ({s with ops:=l++[(biR o x y).1],pc:=s.pc+1},[])):=by
 have hmx:Tryz.prog.follows .mixedOrders=true:=by kernel_rfl
 obtain⟨W1,hW1⟩:∃W1,W1=w.alloc (.cells #[.int .u8 o,.int .u32 a] 106):=⟨_,rfl⟩;have hb1:Below w.heap.size w W1:=by rw[hW1];exact Bel.new _ _
 have hh1:W1.heap[w.heap.size]?=some (.cells #[.int .u8 o,.int .u32 a] 106 (0,0)):=by rw[hW1];exact heap_alloc_new _ _
 have d0:=cell_of_row W1 w.heap.size 0 _ _ _ hh1;have H:=Lib.hid (fun W (hW:Below w.heap.size w W)=>h.below hW);obtain⟨g,cap,hv,hcap,k0,k1,hrow⟩:=(h.below hb1).top2 ho;have c69:=(h.below hb1).o.m.cells.c69;have hv0:=hv;have c69w:=h.o.m.cells.c69;have hlt:=h.lt;simp only[macV]at c69 c69w;rw[hv]at c69 c69w;obtain⟨n,hnn⟩:∃n,n=l.length:=⟨_,rfl⟩;rw[←hnn]at c69 c69w k0 k1 hn hcap;have HB1:=Lib.hid hb1;have hnc:(n:Int)≤(cap:Int):=by omega
 have hnc2:n≤cap:=by omega
 have hbl:b<W1.heap.size:=Nat.lt_of_lt_of_le hlt hb1.size;have hgl:g<W1.heap.size:=World.block_lt_of_cell? _ _ k0;have hwl:w.heap.size<W1.heap.size:=(Array.getElem?_eq_some_iff.1 hh1).1;have e1:((n:Int)+2) - 2=(n:Int):=by omega
 have e2:((n:Int)+2) - 1=(n:Int)+1:=by omega
 have w1:IntKind.i64.wrap (n:Int)=(n:Int):=IntWalk.i64_in _ (by omega);have w2:IntKind.i64.wrap ((n:Int)+1)=(n:Int)+1:=IntWalk.i64_in _ (by omega);have hlt1:(n:Int)<(n:Int)+2:=by omega
 have hlt2:(n:Int)+1<(n:Int)+2:=by omega
 have hn1:(0:Int)≤(n:Int):=by omega
 have hn2:(0:Int)≤(n:Int)+1:=by omega
 have hlt3:n<n+2:=by omega
 have hlt4:n+1<n+2:=by omega
 have htn:((n:Int)+1).toNat=n+1:=by omega
 have HN:=Lib.hid (fun W=>binary_any o x y hy W);rw[hr]at HN;have hw:IntKind.u32.wrap ((s.pc:Int)+1)=(s.pc:Int)+1:=by rw[IntKind.wrap_u32];omega
 obtain⟨i25,hi25,hi250,hi251,hi252⟩:=info_parts inf25;have hbs:=bs23_1;have HRow:=Lib.hid hrow;have HV:=Lib.hid hv;have HNN:=Lib.hid hnn;generalize (biR o x y).1=q at*;clear h ho hr hb1 hh1 hv hv0 hnn hy hcap hrow;go_enter Tryz.func92,Tryz.ntmps92;go_wp2_with fail;rw[←hW1];clear hW1
 first|(go_region_held3(fun W=>W.cell? ⟨b,69,none⟩=some (.slice (some ⟨g,0,none⟩) (n+2) cap)∧W.cell? ⟨g,n,none⟩=some (.int .u32 x)∧W.cell? ⟨g,n+1,none⟩=some (.int .u32 y)∧W.cell? ⟨w.heap.size,0,none⟩=some (.int .u8 o))
  (first|assumption|exact⟨by assumption,by assumption,by assumption,by assumption⟩)
  ((go_at_call 131; refine (HN.out _).mono ?_; rintro e w3 ⟨rfl, hb3⟩; have x1 := (hb3.cell (p := ⟨b, 69, none⟩) hbl).trans c69; have x2 := (hb3.cell (p := ⟨g, n, none⟩) hgl).trans k0; have x3 := (hb3.cell (p := ⟨g, n + 1, none⟩) hgl).trans k1; have x4 := (hb3.cell (p := ⟨w.heap.size, 0, none⟩) hwl).trans d0; have HB3 := Lib.hid (Bel.tr (HB1.out.drew) hb3); have HW13 := Lib.hid (Bel.tr (Below.refl W1.heap.size W1).drew hb3); clear hb3))) | fail "held"
 have HH3:=H.out _ HB3.out;obtain⟨cs,hcs,hmr⟩:=HH3.o.m;have hb13:Below W1.heap.size W1 w3:=HW13.out;have HR3:=Lib.hid (own_below HRow.out hb13);rw[←HNN.out]at HR3;have hgb:g≠b:=fun e=>row_not HR3.out hcs (by decide) (by rw[←e];rfl);have HSt:=Lib.hid (fun (w9:World) (v9:Value) (hg:Grew w3 w9 (.slice (some ⟨g,0,none⟩) n cap) v9)=>((hg.1.block b (Array.getElem?_eq_some_iff.1 hcs).1 (fun e=>hgb (by simpa[Value.ownBlock]using e.symm))).trans hcs:w9.heap[b]?=some (.cells cs 85 (0,0))));have HC67:=Lib.hid hmr.c67;have HC69:=Lib.hid hmr.c69;have HMR:=Lib.hid hmr;have hL63:n+1≤65537:=by omega
 clear HH3 hcs hmr hb13
 go_wp2_with((with_reducible refine wpList_append1B (o:=⟨some 47,.call {callee:=.builtin .append,args:=#[.tmp 44,.tmp 46],argTypes:=#[23,23]},_,_,_,none⟩) rfl _ _ 23 rfl 25 i25 (.int .u32 0) 1 4 Tryz.underlying23 hi25 hi250 hi251 hi252 ?_ ?_ _ _ _ HR3.out _ _ w3.heap.size ?_ ?_ ?_ ?_ ?_ ?_ ?_ ?_);rfl;decide;rfl;rfl;rfl;rfl;(simp[Value.oneCell']);(unfold maxLen;omega);omega;intro g9 c9 w9 o9 r9 hl9;have hp9:=HSt.out _ _ r9;have y69:=(cell_of_row w9 b 69 _ _ _ hp9).trans HC69.out;have y67:=(cell_of_row w9 b 67 _ _ _ hp9).trans HC67.out;simp only[macV]at y67;have df:=frozen_of_row w9 b 69 _ _ hp9;have df2:=frozen_of_row w9 b 67 _ _ hp9;have HP9:=Lib.hid hp9;have HR9:=Lib.hid r9;have HO9:=Lib.hid o9;clear hp9 r9 o9)
 go_end0
 generalize hv9:Value.slice (some ⟨g9,0,none⟩) (n+1) c9=v9 at*;have hne:=row_not HO9.out HP9.out (by decide);have HO:w9.ownsRow 0 25 1 v9 (n+1) (encN .u32 (l++[q])):=by rw[encN_append];exact HO9.out
 have hl9:(l++[q]).length=n+1:=by rw[List.length_append,←HNN.out];rfl
 have h1:OpsAt (w9.setCell ⟨b,69,none⟩ v9) b K (macV {s with ops:=l++[q]} v9 R) (l++[q]):=⟨⟨_,heap_setCell_same w9 b 69 _ _ _ HP9.out,HMR.out.setOps _⟩,by rw[hl9];exact ownsRow_setCell_other HO hne _⟩
 have hf1:Fr w3 (w9.setCell ⟨b,69,none⟩ v9) (opsF b vo) (opsF b v9):=
  (Fr.grew (F:=opsF b vo) (fun g e=>.inr (by rw[HV.out];exact e)) HR9.out (F':=opsF b v9) (fun k hk=>hk.elim (fun e=>.inl (.inl e)) .inr)).trans (Fr.setCell w9 (F:=opsF b v9) (a:=⟨b,69,none⟩) (.inl rfl) _)
 have:=((H.out _ HB3.out).lift (s':={s with ops:=l++[q]}) h1 rfl hf1).setPc (s.pc+1);refine⟨rfl,v9,vt,(by simpa using this:Mach _ _ _ _ _ _ _ _ _ _).nil,?_⟩;exact((Fr.of HB3.out _).trans (frO hf1 M vt)).trans (frB _ b v9 M vt 67 _)
end
section
variable {w:World} {mb:Nat} {m:Img}
theorem MAt.begins (h:MAt w mb m) (i:Nat) (hi:i<4294967296) :
 Calls Tryz.prog 45 #[.pointer (some ⟨mb,0,none⟩),.int .u32 i] w fun e w'=>e=.returned (.bool ((moOf m).begins i))∧Below w.heap.size w w':=by
 have hk:=h.k;obtain⟨B,hB⟩:=h.a;obtain⟨h0,tb,b,vm,uc,vd,uj,ud,un,hm,ht,⟨c0,c1,c2,c3,c4,c5,c6,c7,c8,c9,c10,c11⟩,hio,⟨B',hBB,hf⟩,hd,hv⟩:=hB;have HA:=Lib.hid (all_mod mb tb w hm);obtain⟨vp,vo,vt,us,hA⟩:=hf;obtain⟨e1,e2,e3⟩:=prc_eq hk i;have HP:=Lib.hid (fun W (hW:Below w.heap.size w W)=>begins_any (hA.below hW) (fun x hx=>(by have:=e3 x hx;omega)) i hi);obtain⟨am,nm,rfl,-⟩:=own_sl hv
 show Calls Tryz.prog 45 _ w fun e w'=>e=.returned (.bool (beginsN (psTo m.code m.code.length) (ofTo m.code m.code.length) i))∧_
 generalize beginsN (psTo m.code m.code.length) (ofTo m.code m.code.length) i=bb at*;have c0':=(Bel.new w (.cells #[.pointer (some ⟨b,0,none⟩),.slice am (flowN m.code m.js).2.1.length nm] 113)).cell (p:=⟨tb,0,none⟩) (World.block_lt_of_cell? _ _ c0);clear hio hd hv hA e1 e2 e3 h c0';generalize (flowN m.code m.js).2.1.length=ln at*
 have H247:=Lib.hid (show Calls Tryz.prog 93 #[.agg #[.pointer (some ⟨b,0,none⟩),.slice am ln nm],.int .u32 i] w fun e w'=>e=.returned (.bool bb)∧Below w.heap.size w w' by
  have HP2:=Lib.hid (HP.out _ (Bel.new w (.cells #[.pointer (some ⟨b,0,none⟩),.slice am ln nm] 113)));clear HA HP c0 c1 c2 c3 c4 c5 c6 c7 c8 c9 c10 c11;go_enter Tryz.func93,Tryz.ntmps93;go_wp2_with fail;refine HP2.out.mono ?_;rintro e w1⟨rfl,hb⟩;have HB:=Lib.hid (Bel.tr (Bel.new _ _) hb);clear hb;go_wp2_with fail;go_ret
  exact⟨rfl,HB.out⟩)
 clear HP;go_enter Tryz.func45,Tryz.ntmps45;go_wp2_with fail;refine HA.out.mono ?_;rintro e w1⟨rfl,rfl⟩;go_wp2_with fail;refine H247.out.mono ?_;rintro e w1⟨rfl,hb⟩;have HB:=Lib.hid hb;clear hb;go_wp2_with fail;go_ret;exact⟨rfl,HB.out⟩
theorem ofN_of {ofs:List Nat} {x:Nat} (h:x<ofs.length):ofN ofs x=(ofs.getD x 0:Nat):=by unfold ofN;rw[if_pos h]
theorem legal_eq {m:Img} (hk:TakeOk m) {x:Nat} (hx:x<m.code.length) (ho:opAt m.code x=7) (y:Nat) :
 (decide (x<(ofTo m.code m.code.length).length)&&decide (y∈(aimTo (ofTo m.code m.code.length) m.js (psTo m.code m.code.length).length m.js.length).getD ((ofTo m.code m.code.length).getD x 0) []))=(moOf m).legal x y:=by
 have hf:=findOk_nil hk.f;have hl:x<(ofTo m.code m.code.length).length:=by rw[hf.tl.ol];exact hx
 have h2:=hf.hof x hl;have e7:kindOf 7=4:=by decide+kernel
 unfold Mo.legal
 show _=decide (y∈nextN m.code m.js x)
 unfold nextN;rw[ho,e7,if_neg (by decide),if_neg (by decide),if_neg (by decide),if_pos rfl,ofN_of hl];unfold tgtsAt;rw[if_pos ⟨by omega,by omega⟩,decide_eq_true hl,Bool.true_and];rfl
theorem MAt.legal (h:MAt w mb m) (x y:Nat) (hx:x<m.code.length) (hx9:x<4294967296) (ho:opAt m.code x=7) :
 Calls Tryz.prog 122 #[.pointer (some ⟨mb,0,none⟩),.int .u32 x,.int .u32 y] w fun e w'=>e=.returned (.bool ((moOf m).legal x y))∧Below w.heap.size w w':=by
 have hk:=h.k;have hfk:=findOk_nil hk.f;obtain⟨B,hB⟩:=h.a;obtain⟨h0,tb,b,vm,uc,vd,uj,ud,un,hm,ht,⟨c0,c1,c2,c3,c4,c5,c6,c7,c8,c9,c10,c11⟩,hio,⟨B',hBB,hf⟩,hd,hv⟩:=hB;have HA:=Lib.hid (all_mod mb tb w hm);obtain⟨vp,vo,vt,us,hA⟩:=hf;have HP:=Lib.hid (fun W (hW:Below w.heap.size w W)=>legal_any (hA.below hW) (fun q hq=>by rw[aimTo_length];exact hfk.hof q hq) hfk.tg.sorted hfk.rows x y hx9);rw[legal_eq hk hx ho y]at HP;obtain⟨am,nm,rfl,-⟩:=own_sl hv;generalize (moOf m).legal x y=bb at*;clear hio hd hv hA h hk hfk ho hx;generalize (flowN m.code m.js).2.1.length=ln at*
 have H247:=Lib.hid (show Calls Tryz.prog 153 #[.agg #[.pointer (some ⟨b,0,none⟩),.slice am ln nm],.int .u32 x,.int .u32 y] w fun e w'=>e=.returned (.bool bb)∧Below w.heap.size w w' by
  have HP2:=Lib.hid (HP.out _ (Bel.new w (.cells #[.pointer (some ⟨b,0,none⟩),.slice am ln nm] 113)));clear HA HP c0 c1 c2 c3 c4 c5 c6 c7 c8 c9 c10 c11;go_enter Tryz.func153,Tryz.ntmps153;go_wp2_with fail;refine HP2.out.mono ?_;rintro e w1⟨rfl,rfl⟩;go_wp2_with fail;go_ret
  exact⟨rfl,Bel.new _ _⟩)
 clear HP;go_enter Tryz.func122,Tryz.ntmps122;go_wp2_with fail;refine HA.out.mono ?_;rintro e w1⟨rfl,rfl⟩;go_wp2_with fail;refine H247.out.mono ?_;rintro e w1⟨rfl,hb⟩;have HB:=Lib.hid hb;clear hb;go_wp2_with fail;go_ret;exact⟨rfl,HB.out⟩
theorem back_eq (m:Img) (i:Nat):(moOf m).back i=(decide (0<i)&&(decide (0≤depthAt (flowN m.code m.js).1 (i - 1))&&decide (opAt m.code (i - 1)=5))):=by
 unfold Mo.back;rw[mo_depth];rfl
theorem MAt.back (h:MAt w mb m) (i:Nat) (hi:i<4294967296) :
 Calls Tryz.prog 120 #[.pointer (some ⟨mb,0,none⟩),.int .u32 i] w fun e w'=>e=.returned (.bool ((moOf m).back i))∧Below w.heap.size w w':=by
 have hk:=h.k;obtain⟨B,hB⟩:=h.a;obtain⟨h0,tb,b,vm,uc,vd,uj,ud,un,hm,ht,⟨c0,c1,c2,c3,c4,c5,c6,c7,c8,c9,c10,c11⟩,hio,hf,hd,hv⟩:=hB;have HA:=Lib.hid (all_mod mb tb w hm);have hdl:(flowN m.code m.js).1.length=m.code.length:=(flowN_spec (findOk_nil hk.f) hk.r).dl;rw[back_eq]
 have H407:Calls Tryz.prog 150 #[.agg #[uc,vd],.int .u32 i] w fun e w'=>e=.returned (.bool (decide (0<i)&&(decide (0≤depthAt (flowN m.code m.js).1 (i - 1))&&decide (opAt m.code (i - 1)=5))))∧Below w.heap.size w w':=by
  obtain⟨a1,n1,rfl,-,-,hc1⟩:=own_sl hio.c;obtain⟨a2,n2,rfl,-⟩:=own_sl hd;by_cases hi0:i=0
  ·subst hi0
   rw[show decide ((0:Nat)<0)=false from rfl,Bool.false_and];clear hio hd hv h hf HA c0 c1 c2 c3 c4 c5 c6 c7 c8 c9 c10 c11 hc1;go_enter Tryz.func150,Tryz.ntmps150;go_wp2_with fail;go_ret;exact⟨rfl,Bel.new _ _⟩
  ·obtain⟨W1,hW1⟩:∃W1,W1=w.alloc (.cells #[.slice a1 m.code.length n1,.slice a2 (flowN m.code m.js).1.length n2] 115):=⟨_,rfl⟩
   have hb1:Below w.heap.size w W1:=by rw[hW1];exact Bel.new _ _
   have hh1:W1.heap[w.heap.size]?=some (.cells #[.slice a1 m.code.length n1,.slice a2 (flowN m.code m.js).1.length n2] 115 (0,0)):=by rw[hW1];exact heap_alloc_new _ _
   have HD:=Lib.hid (depth_any a1 m.code.length n1 (flowN m.code m.js).1 (i - 1) (by omega) W1 B _ (own_below hd hb1));have hw1:IntKind.u32.wrap ((i:Int) - 1)=((i - 1:Nat):Int):=by rw[IntKind.wrap_u32];omega
   have hi1:(0:Int)<(i:Int):=by omega
   have k0:=cell_of_row W1 w.heap.size 0 _ _ _ hh1;have k1:=cell_of_row W1 w.heap.size 1 _ _ _ hh1;rw[decide_eq_true (show 0<i by omega),Bool.true_and];obtain⟨j,hj⟩:∃j,j=i - 1:=⟨_,rfl⟩;rw[←hj]at HD hw1⊢;obtain⟨D,hD⟩:∃D,D=(flowN m.code m.js).1:=⟨_,rfl⟩;rw[←hD]at HD hdl k0 k1⊢;rw[←hD]at hW1;have HB1:=Lib.hid hb1;have HH1:=Lib.hid hh1;by_cases hd0:0≤depthAt D j
   ·have hjl:j<m.code.length:=by
     by_cases hh:j<m.code.length
     ·exact hh
     ·unfold depthAt at hd0
      rw[List.getD_eq_getElem?_getD,List.getElem?_eq_none (by omega)]at hd0;exact absurd hd0 (by decide)
    obtain⟨g,rfl,hg,hc⟩:=hc1 (by omega);have hcell:=(hc (j*2) (by rw[encI_length];omega)).trans (encI_op m.code j hjl);rw[show(m.code.getD j (0,0)).1=opAt m.code j from rfl]at hcell;have hge:(0:Int)≤depthAt D j:=hd0;rw[decide_eq_true hd0,Bool.true_and];generalize depthAt D j=dj at*;generalize opAt m.code j=oo at*;have HC:=Lib.hid ((hb1.cell (p:=⟨g,j*2,none⟩) hg).trans hcell);have hjn:(j:Int)<(m.code.length:Int):=(by omega);have hj0:(0:Int)≤(j:Int):=(by omega);generalize m.code.length=n at*;generalize D.length=dn at*;have hgW:g<W1.heap.size:=Nat.lt_of_lt_of_le hg hb1.size;have hlW:w.heap.size<W1.heap.size:=(Array.getElem?_eq_some_iff.1 hh1).1;clear hio hd hv h hf HA c0 c1 c2 c3 c4 c5 c6 c7 c8 c9 c10 c11 hc1 hc hcell hj hD hdl hb1 hh1;go_enter Tryz.func150,Tryz.ntmps150;go_wp2_with fail;rw[←hW1];clear hW1;refine HD.out.mono ?_;rintro e w1⟨rfl,hb⟩;have c9:=(hb.cell (p:=⟨g,j*2,none⟩) hgW).trans HC.out;have l0:=(hb.cell (p:=⟨w.heap.size,0,none⟩) hlW).trans k0;have HB:=Lib.hid (Bel.tr HB1.out hb);clear hb;go_wp2_with fail;go_ret;refine⟨ret_boolE ?_,HB.out⟩;rw[Bool.eq_iff_iff];simp;omega
   ·have hge:¬(0:Int)≤depthAt D j:=hd0
    rw[decide_eq_false hd0,Bool.false_and];generalize depthAt D j=dj at*;generalize m.code.length=n at*;generalize D.length=dn at*;clear hio hd hv h hf HA c0 c1 c2 c3 c4 c5 c6 c7 c8 c9 c10 c11 hc1 hj hD hdl hb1 hh1;go_enter Tryz.func150,Tryz.ntmps150;go_wp2_with fail;rw[←hW1];clear hW1;refine HD.out.mono ?_;rintro e w1⟨rfl,hb⟩;have HB:=Lib.hid (Bel.tr HB1.out hb);clear hb;go_wp2_with fail;go_ret;exact⟨rfl,HB.out⟩
 have HX:=Lib.hid H407;generalize (decide (0<i)&&(decide (0≤depthAt (flowN m.code m.js).1 (i - 1))&&decide (opAt m.code (i - 1)=5)))=bb at*;obtain⟨a1,n1,rfl,-⟩:=own_sl hio.c;obtain⟨a2,n2,rfl,-⟩:=own_sl hd;clear hio hd hv h hf H407 hk hdl;generalize m.code.length=n at*;generalize (flowN m.code m.js).1.length=dn at*;go_enter Tryz.func120,Tryz.ntmps120;go_wp2_with fail;refine HA.out.mono ?_;rintro e w1⟨rfl,rfl⟩;go_wp2_with fail;refine HX.out.mono ?_;rintro e w1⟨rfl,hb⟩;have HB:=Lib.hid hb;clear hb;go_wp2_with fail;go_ret;exact⟨rfl,HB.out⟩
end
structure Home (w0 w:World) (F:Nat→Prop):Prop where
 b:Below w0.heap.size w0 w
 f:∀k,F k→w0.heap.size≤k
theorem Home.fr {w0 w w':World} {F F':Nat→Prop} (h:Home w0 w F) (hf:Fr w w' F F'):Home w0 w' F':=
 ⟨⟨hf.os.trans h.b.os,hf.tape.trans h.b.tape,hf.output.trans h.b.output,Nat.le_trans h.b.size hf.size,
  fun k hk=>(hf.block k (Nat.lt_of_lt_of_le hk h.b.size) (fun e=>absurd (h.f k e) (by omega))).trans (h.b.block k hk)⟩,
  fun k hk=>(hf.foot k hk).elim (h.f k) (fun e=>Nat.le_trans h.b.size e)⟩
theorem Home.mat {w0 w:World} {F:Nat→Prop} (h:Home w0 w F) {mb:Nat} {m:Img} (hm:MAt w0 mb m):MAt w mb m:=hm.below h.b
theorem Home.sub {w0 w:World} {F G:Nat→Prop} (h:Home w0 w F) (hg:∀k,G k→F k):Home w0 w G:=⟨h.b,fun k hk=>h.f k (hg k hk)⟩
theorem MacB.c0 {w:World} {b:Nat} {K:MacK} {V:MacV} (h:MacB w b K V):w.cell? ⟨b,0,none⟩=some K.md:=by
 obtain⟨cs,h,r⟩:=h;exact(cell_of_row w b 0 _ _ _ h).trans r.c0
section
variable {w0 w:World} {b:Nat} {K:MacK} {s:St} {vo:Value} {R:MacR} {M:MemK} {vt:Value} {logs:Bool} {tou:List (Nat×Bool)} {mb:Nat} {m:Img}
theorem frV {w w':World} {F:Nat→Prop} {vo':Value} (hv:vo'.ownBlock=vo.ownBlock) (h:Fr w w' F (machF b vo' M vt)):Fr w w' F (machF b vo M vt):=
 h.mono (fun _ e=>e) (fun i e=>.inr (e.elim (fun e2=>.inl (e2.elim .inl (fun e3=>.inr (by rw[hv];exact e3)))) .inr))
theorem Mach.rowB {w':World} {F':Nat→Prop} (h:Mach w b K s vo R M vt logs tou) (hf:Fr w w' (fun k=>k=b) F'):w'.ownsRow 0 25 1 vo s.ops.length (encN .u32 s.ops):=
 own_fr h.o.o hf (fun g e e2=>h.o.m.not_own h.o.o (by decide) (by rw[←e2];exact e))
theorem jump_act {l:List Nat} {x:Nat} (h:Mach w b K s vo R M vt logs tou) (hh:Home w0 w (machF b vo M vt)) (hm:MAt w0 mb m) (hk:K.md=.pointer (some ⟨mb,0,none⟩)) (ho:s.ops=l++[x]) (hn:l.length≤65535) (hp:s.pc<m.code.length) (hp9:s.pc<4294967295) (h7:opAt m.code s.pc=7) (o a:Nat) :
 Calls Tryz.prog 77 #[.pointer (some ⟨b,0,none⟩),.agg #[.int .u8 o,.int .u32 a]] w fun e w'=>
  if(moOf m).legal s.pc x then ActOk b K R M logs tou vo vt w ({s with pc:=x,ops:=l},[]) e w' else ActFlt b K s R M logs tou vo vt w 3 [] e w':=by
 have hmx:Tryz.prog.follows .mixedOrders=true:=by kernel_rfl
 have hb1:=Bel.new w (.cells #[.int .u8 o,.int .u32 a] 106);have HP:=Lib.hid ((h.below hb1).pop ho (by omega));have HB1:=Lib.hid hb1;have HRow:=Lib.hid (fun w' F'=>(h.below hb1).rowB (w':=w') (F':=F'));have HL:=Lib.hid (fun W F (hW:Home w0 W F)=>(hW.mat hm).legal s.pc x hp (by omega) h7);have HH:=Lib.hid (hh.fr (Fr.of hb1 _));generalize hq:(moOf m).legal s.pc x=q at*;generalize hR:(fun e w'=>if q then ActOk b K R M logs tou vo vt w ({s with pc:=x,ops:=l},[]) e w' else ActFlt b K s R M logs tou vo vt w 3 [] e w')=Q;have HQ:=Lib.hid hR;clear h hh hm ho hp h7 hb1 hq hR;go_enter Tryz.func77,Tryz.ntmps77;go_wp2_with fail;refine HP.out.mono ?_;rintro e w1⟨rfl,vo1,m1,f1,fb,hv⟩;have HV:=Lib.hid hv;clear hv;have k0:=m1.o.m.c0;rw[hk]at k0;have k67:=m1.o.m.cells.c67;simp only[macV]at k67;have HH1:=Lib.hid ((HH.out.fr f1).fr (Fr.of (Below.refl _ _).drew _));have HM1:=Lib.hid (fun W (hW:Below w1.heap.size w1 W)=>m1.below hW);have HR1:=Lib.hid (HRow.out _ _ fb);have HF1:=Lib.hid f1;have hbl:b<w1.heap.size:=m1.lt;clear m1 f1 fb;go_wp2_with fail
 first|(go_region_held3(fun W=>W.cell? ⟨b,0,none⟩=some (.pointer (some ⟨mb,0,none⟩))∧W.cell? ⟨b,67,none⟩=some (.int .u32 s.pc))
  (first|assumption|exact⟨by assumption,by assumption⟩)
  ((go_at_call 122; refine (HL.out _ _ HH1.out).mono ?_; rintro e w3 ⟨rfl, hb3⟩; have x1 := (hb3.cell (p := ⟨b, 0, none⟩) hbl).trans k0; have x2 := (hb3.cell (p := ⟨b, 67, none⟩) hbl).trans k67; have HB3 := Lib.hid (Bel.tr (Below.refl w1.heap.size w1).drew hb3); clear hb3))) | fail "held"
 have HM3:=Lib.hid (HM1.out _ HB3.out);have y67:=HM3.out.o.m.cells.c67;have yf:=HM3.out.o.m.cells.fz;cases q
 ·go_wp2_with fail
  rw[←HQ.out];exact⟨rfl,rfl,vo1,vt,HM3.out.o.m,own_below HR1.out HB3.out,HM3.out.nil.mem,frV HV.out (((Fr.of HB1.out _).trans HF1.out).trans (Fr.of HB3.out _))⟩
 ·go_wp2_with fail
  go_end0
  rw[←HQ.out];have:=HM3.out.setPc x;refine⟨rfl,vo1,vt,(by simpa using this:Mach _ _ _ _ _ _ _ _ _ _).nil,?_⟩;exact(((Fr.of HB1.out _).trans HF1.out).trans (Fr.of HB3.out _)).trans (frB _ b vo1 M vt 67 _)
end
open Go.RowKit Go.Maps
theorem law25:Keyed Tryz.prog 25:=int_keyed Tryz.underlying25
theorem gzero3 (w:World):(zeroValue 3).run Tryz.prog w=.ok (.int .i64 0) w:=by kernel_rfl
def gateT (D:DataW Unit) (l:List (Nat×Int)):DataW Unit:=l.foldl (fun D g=>D.put (.int .u32 g.1) (.lit (.int .i64 g.2))) D
def gateD (l:List (Nat×Int)):DataW Unit:=gateT (.map []) l
theorem gateD_snoc (l:List (Nat×Int)) (g:Nat×Int):gateD (l++[g])=(gateD l).put (.int .u32 g.1) (.lit (.int .i64 g.2)):=by
 unfold gateD gateT;rw[List.foldl_append];rfl
theorem lit_ne {x y:Nat} (h:x≠y):(Lit.int .u32 (x:Int))≠Lit.int .u32 (y:Int):=fun e=>by
 injection e with _ e;omega
theorem isKey_u32 (x:Nat):WideAt.IsKeyLit (.int .u32 (x:Int)):=trivial
theorem granted_cons (g:Nat×Int) (l:List (Nat×Int)) (x:Nat):grantedN (g::l) x=if g.1=x then some g.2 else grantedN l x:=by
 unfold grantedN;rw[List.find?_cons];by_cases h:g.1=x
 ·rw[if_pos h,show(g.1==x)=true by simpa using h];rfl
 ·rw[if_neg h,show(g.1==x)=false by simpa using h]
theorem granted_none {l:List (Nat×Int)} {x:Nat} (h:x∉l.map (·.1)):grantedN l x=none:=by
 induction l with
 | nil=>rfl
 | cons g l ih=>
  rw[granted_cons];simp only[List.map_cons,List.mem_cons,not_or]at h;rw[if_neg (fun e=>h.1 e.symm),ih h.2]
theorem gateT_look (x:Nat):∀(l:List (Nat×Int)) (D:DataW Unit),IsMap D→(l.map (·.1)).Nodup→
 Maps.has (gateT D l) (.int .u32 x)=((grantedN l x).isSome||Maps.has D (.int .u32 x))∧
 (gateT D l).atKey (.int .u32 x) (.lit (.int .i64 0))=(match grantedN l x with|some n=>.lit (.int .i64 n)|none=>D.atKey (.int .u32 x) (.lit (.int .i64 0)))
 | [],D,_,_=>⟨rfl,rfl⟩
 | g::l,D,hD,hn=>by
  simp only[List.map_cons,List.nodup_cons]at hn;obtain⟨h1,h2⟩:=gateT_look x l (D.put (.int .u32 g.1) (.lit (.int .i64 g.2))) (hD.put _ _) hn.2;rw[show gateT D (g::l)=gateT (D.put (.int .u32 g.1) (.lit (.int .i64 g.2))) l from rfl,h1,h2,granted_cons];by_cases h:g.1=x
  ·subst h
   rw[if_pos rfl,granted_none hn.1,has_put_same hD (isKey_u32 _)];exact⟨rfl,atKey_put_same hD (isKey_u32 _) _ _⟩
  ·rw[if_neg h,has_put_other (lit_ne (Ne.symm h)),atKey_put_other (lit_ne (Ne.symm h))]
   exact⟨rfl,rfl⟩
theorem gateD_has {l:List (Nat×Int)} (hn:(l.map (·.1)).Nodup) (x:Nat):Maps.has (gateD l) (.int .u32 x)=(grantedN l x).isSome:=by
 have:=(gateT_look x l (.map []) isMap_empty hn).1;rw[show gateD l=gateT (.map []) l from rfl,this];simp[Maps.has]
theorem gateD_at {l:List (Nat×Int)} (hn:(l.map (·.1)).Nodup) (x:Nat) {c:Int} (h:(gateD l).atKey (.int .u32 x) (.lit (.int .i64 0))=.lit (.int .i64 c)):c=(grantedN l x).getD 0:=by
 rw[show gateD l=gateT (.map []) l from rfl,(gateT_look x l (.map []) isMap_empty hn).2]at h;cases e:grantedN l x with
 | some n=>rw[e]at h;simp at h;simpa using h.symm
 | none=>rw[e]at h;simp[DataW.atKey]at h;simpa using h.symm
structure GrOk (gr:List (Nat×Int)):Prop where
 n:gr.length≤64
 nd:(gr.map (·.1)).Nodup
 b:∀g∈gr,0≤g.2∧g.2≤15∧g.1≤2147483647
theorem GrOk.bd {gr:List (Nat×Int)} (h:GrOk gr) {x:Nat} {n:Int} (hg:grantedN gr x=some n):0≤n∧n≤15:=by
 have:∃g∈gr,g.2=n:=by
  unfold grantedN at hg;cases e:gr.find? (fun g=>g.1==x)with
  | none=>rw[e]at hg;cases hg
  | some g=>rw[e]at hg;exact⟨g,List.mem_of_find?_eq_some e,by simpa using hg⟩
 obtain⟨g,hg1,rfl⟩:=this;exact⟨(h.b g hg1).1,(h.b g hg1).2.1⟩
def GateAt (w:World) (v:Value) (gr:List (Nat×Int)):Prop:=
 ∃gb mp,v=.pointer (some ⟨gb,0,none⟩)∧w.cell? ⟨gb,0,none⟩=some (.map (some mp))∧w.ownsMap Tryz.prog 25 (plainElem (H:=Unit) Tryz.prog 3) mp gr.length (gateD gr)∧GrOk gr
theorem GateAt.below {w w':World} {v:Value} {gr:List (Nat×Int)} (h:GateAt w v gr) (hb:Below w.heap.size w w'):GateAt w' v gr:=by
 obtain⟨gb,mp,rfl,hc,hm,hk⟩:=h;exact⟨gb,mp,rfl,(hb.cell (p:=⟨gb,0,none⟩) (World.block_lt_of_cell? _ _ hc)).trans hc,hm.kept (below_grownBy hb none) (by simp),hk⟩
theorem run_neqmap (mp:Nat) (w:World):(binOp .neq 155 (.map (some mp)) (.map none)).run Tryz.prog w=.ok (.bool true) w:=by kernel_rfl
section
variable {w:World} {v:Value} {gr:List (Nat×Int)}
theorem gmade_any (h:GateAt w v gr):Calls Tryz.prog 148 #[v] w fun e w'=>e=.returned (.bool true)∧w=w':=by
 obtain⟨gb,mp,rfl,hc,hm,hk⟩:=h;have hnm:=run_neqmap;clear hm hk;go_enter Tryz.func148,Tryz.ntmps148;go_wp2_with fail;go_ret;exact⟨rfl,rfl⟩
theorem granted_any (h:GateAt w v gr) (x:Nat) (hx:x<4294967296) :
 Calls Tryz.prog 116 #[v,.int .u32 x] w fun e w'=>e=.returned (.tuple #[.int .i64 ((grantedN gr x).getD 0),.bool (grantedN gr x).isSome])∧w=w':=by
 have HM:=Lib.hid (gmade_any h);obtain⟨gb,mp,rfl,hc,hm,hk⟩:=h;have hkey:keyOf Tryz.prog 25 (.int .u32 x)=some (.int .u32 x):=keyOf_int_mk Tryz.underlying25 (WalkArith.wf_u32 (by omega));have hh:=gateD_has hk.nd x;have HA:=Lib.hid (fun c=>gateD_at hk.nd x (c:=c));have HW:=Lib.hid hm;generalize hbo:(grantedN gr x).isSome=bo at*;generalize hno:(grantedN gr x).getD 0=no at*;clear hm hk;go_enter Tryz.func116,Tryz.ntmps116;go_wp2_with fail;refine HM.out.mono ?_;rintro e w1⟨rfl,rfl⟩
 go_wp2_with(at_lookup;refine wpList_lookup_own_ok_int _ rfl _ _ 155 rfl 25 3 .i64 law25 Tryz.underlying155 Tryz.underlying3 (gzero3 _) mp gr.length _ rfl HW.out _ _ rfl hkey ?_;intro c hat hwc;rw[hh,HA.out c hat])
 go_ret2;exact⟨rfl,rfl⟩
theorem xor_max {x:Nat} (h:x<4294967296):bits .xor .u32 IntKind.u32.max (x:Int)=((4294967295 - x:Nat):Int):=by
 have e:(IntKind.u32.max:Int)=((4294967295:Nat):Int):=rfl;rw[e,u32_xor_nat _ _ (by decide) h];congr 1
 have h1:(4294967295 ^^^ x:Nat)=(BitVec.allOnes 32 ^^^ BitVec.ofNat 32 x).toNat:=by
  rw[BitVec.toNat_xor,BitVec.toNat_ofNat,Nat.mod_eq_of_lt (by omega)];rfl
 rw[h1,BitVec.allOnes_xor,BitVec.toNat_not,BitVec.toNat_ofNat,Nat.mod_eq_of_lt (by omega)]
theorem gnumber_any (x:Nat) (hx:x<4294967296) (w:World) :
 Calls Tryz.prog 64 #[.int .u32 x] w fun e w'=>e=.returned (.tuple #[.int .u32 (if 2147483648≤x then 4294967295 - x else 0:Nat),.bool (decide (2147483648≤x))])∧w=w':=by
 by_cases h:2147483648≤x
 ·obtain⟨y,e1,e2⟩:∃y,IntKind.i32.wrap (x:Int)=y∧¬(0:Int)≤y:=⟨_,rfl,by rw[IntKind.wrap_i32];omega⟩
  have e3:=xor_max hx;rw[if_pos h,decide_eq_true h];generalize 4294967295 - x=q at*;clear h hx;go_enter Tryz.func64,Tryz.ntmps64;go_wp2_with fail;go_ret2;exact⟨rfl,rfl⟩
 ·have e1:IntKind.i32.wrap (x:Int)=(x:Int):=by rw[IntKind.wrap_i32];omega
  have e2:(0:Int)≤(x:Int):=by omega
  rw[if_neg h,decide_eq_false h];go_enter Tryz.func64,Tryz.ntmps64;go_wp2_with fail;go_ret2;exact⟨rfl,rfl⟩
end
section
variable {w0 w:World} {b:Nat} {K:MacK} {s:St} {vo:Value} {R:MacR} {M:MemK} {vt:Value} {logs:Bool} {tou:List (Nat×Bool)} {mb:Nat} {m:Img}
theorem Mach.top1 {l:List Nat} {x:Nat} (h:Mach w b K s vo R M vt logs tou) (ho:s.ops=l++[x]):∃g cap,vo=.slice (some ⟨g,0,none⟩) (l.length+1) cap∧w.cell? ⟨g,l.length,none⟩=some (.int .u32 x):=by
 have h1:OpsAt w b K (macV s vo R) (l++[x]):=by rw[←ho];exact h.o
 exact h1.top
def CallPost (mo:Mo) (b:Nat) (K:MacK) (s:St) (R:MacR) (M:MemK) (logs:Bool) (tou:List (Nat×Bool)) (vo vt:Value) (w:World) (l:List Nat) (x:Nat) (e:Ending) (w':World):Prop:=
 if mo.begins x=false then ActFlt b K s R M logs tou vo vt w 4 [] e w'
 else if 64<(l.length:Int)+mo.need x then ActFlt b K s R M logs tou vo vt w 5 [] e w'
 else ActOk b K R M logs tou vo vt w ({s with ops:=l,data:=storeN s.data s.sp (s.pc+1) 4,pc:=x},touN M.N s.sp 4 true) e w'
theorem call_act {l:List Nat} {x:Nat} (h:Mach w b K s vo R M vt logs tou) (hh:Home w0 w (machF b vo M vt)) (hm:MAt w0 mb m) (hk:K.md=.pointer (some ⟨mb,0,none⟩)) (ho:s.ops=l++[x]) (hx:x<2147483648) (hn:l.length≤65535) (hp9:s.pc<4294967295) (hs:s.sp<4294967296) (o a:Nat) :
 Calls Tryz.prog 75 #[.pointer (some ⟨b,0,none⟩),.agg #[.int .u8 o,.int .u32 a]] w (CallPost (moOf m) b K s R M logs tou vo vt w l x):=by
 have hmx:Tryz.prog.follows .mixedOrders=true:=by kernel_rfl
 obtain⟨W1,hW1⟩:∃W1,W1=w.alloc (.cells #[.int .u8 o,.int .u32 a] 106):=⟨_,rfl⟩;have hb1:Below w.heap.size w W1:=by rw[hW1];exact Bel.new _ _
 have H:=Lib.hid (fun W (hW:Below w.heap.size w W)=>h.below hW);have HHm:=Lib.hid (fun W (hW:Below w.heap.size w W)=>hh.fr (Fr.of hW _));obtain⟨g,cap,hv,k0⟩:=(h.below hb1).top1 ho;have c69:=(h.below hb1).o.m.cells.c69;simp only[macV]at c69;rw[hv]at c69;have HV:=Lib.hid hv;obtain⟨n,hnn⟩:∃n,n=l.length:=⟨_,rfl⟩;rw[←hnn]at c69 k0 hn;have HB1:=Lib.hid hb1;have HO:=Lib.hid ho;have e1:(((n+1:Nat):Int)) - 1=(n:Int):=by omega
 have w1:IntKind.i64.wrap (n:Int)=(n:Int):=IntWalk.i64_in _ (by omega);have hlt1:(n:Int)<(n:Int)+1:=by omega
 have hlt2:n<n+1:=by omega
 have hn1:(0:Int)≤(n:Int):=by omega
 have HG:=Lib.hid (fun W=>gnumber_any x (by omega) W);rw[if_neg (by omega),decide_eq_false (by omega)]at HG;have HBe:=Lib.hid (fun W (hW:Below w.heap.size w W)=>((hh.fr (Fr.of hW _)).mat hm).begins x (by omega));have HPr:=Lib.hid (fun W (hW:Below w.heap.size w W)=>((hh.fr (Fr.of hW _)).mat hm).proc x (by omega));have hne:=mo_need hm.k x;have hq:=need_bd m x;have hw:IntKind.u32.wrap ((s.pc:Int)+1)=((s.pc+1:Nat):Int):=by rw[IntKind.wrap_u32];omega
 unfold CallPost;rw[hne,←hnn];generalize hbg:(moOf m).begins x=bg at*;generalize needN m x=q at*;generalize decide (x<m.code.length)=bb at*;unfold prcV at HPr;generalize prcN m x=p at*;obtain⟨p0,p1,p2⟩:=p;simp only at HPr;have w2:IntKind.i64.wrap ((n:Int)+q)=(n:Int)+q:=IntWalk.i64_in _ (by omega);generalize hR:(fun e w'=>if bg=false then ActFlt b K s R M logs tou vo vt w 4 [] e w' else if 64<(n:Int)+q then ActFlt b K s R M logs tou vo vt w 5 [] e w' else ActOk b K R M logs tou vo vt w ({s with ops:=l,data:=storeN s.data s.sp (s.pc+1) 4,pc:=x},touN M.N s.sp 4 true) e w')=Q;have HQ:=Lib.hid hR;have HNN:=Lib.hid hnn;clear h hh hm ho hb1 hv hnn hbg hR hne;go_enter Tryz.func75,Tryz.ntmps75;go_wp2_with fail;rw[←hW1];clear hW1
 go_quiet(fail)
 have hb2:Below w.heap.size w (W1.drewN nq):=below_drewN HB1.out nq;clear c69 k0;obtain⟨W2,hW2⟩:∃W2,W2=W1.drewN nq:=⟨_,rfl⟩;rw[←hW2]at hb2⊢;have k00:=(H.out W2 hb2).o.m.c0;rw[hk]at k00;have HBe2:=Lib.hid (HBe.out W2 hb2);have HB2:=Lib.hid hb2;clear hW2 hb2;go_wp2_with fail;refine(HG.out _).mono ?_;rintro e W3⟨rfl,rfl⟩;go_wp2_with fail;refine HBe2.out.mono ?_;rintro e W4⟨rfl,hb4⟩;have hb5:=Bel.tr HB2.out hb4;have k04:=(H.out W4 hb5).o.m.c0;rw[hk]at k04;have HPr4:=Lib.hid (HPr.out W4 hb5);have HB4:=Lib.hid hb5;have hm4:=(H.out W4 hb5).nil;have HM4:=Lib.hid hm4;clear hb4 hb5 hm4 k00;cases bg
 ·go_wp2_with fail
  rw[←HQ.out];exact⟨rfl,rfl,vo,vt,HM4.out.o.m,HM4.out.o.o,HM4.out.mem,Fr.of HB4.out _⟩
 go_wp2_with fail;refine HPr4.out.mono ?_;rintro e W5⟨rfl,hb5⟩;obtain⟨W6,hW6⟩:∃W6,W6=W5.alloc (.cells #[.int .u32 p0,.int .u32 p1,.int .u32 p2,.int .i64 q] 126):=⟨_,rfl⟩;have hb6:Below w.heap.size w W6:=by rw[hW6];exact Bel.al (Bel.tr HB4.out hb5) _
 have hh6:W6.heap[W5.heap.size]?=some (.cells #[.int .u32 p0,.int .u32 p1,.int .u32 p2,.int .i64 q] 126 (0,0)):=by rw[hW6];exact heap_alloc_new _ _
 have d3:=cell_of_row W6 W5.heap.size 3 _ _ _ hh6;have k69:=(H.out W6 hb6).o.m.cells.c69;simp only[macV]at k69;rw[HV.out,←HNN.out]at k69;have HB6:=Lib.hid hb6;clear hb5 hb6 hh6 HPr4 k04;by_cases h64:64<(n:Int)+q
 ·go_wp2_with fail
  rw[←hW6];clear hW6
  go_quiet(fail)
  have hb7:Below w.heap.size w (W6.drewN nq):=below_drewN HB6.out nq;clear k69 d3;obtain⟨W7,hW7⟩:∃W7,W7=W6.drewN nq:=⟨_,rfl⟩;rw[←hW7]at hb7⊢;have HM7:=Lib.hid ((H.out W7 hb7).nil);have HB7:=Lib.hid hb7;clear hW7 hb7;go_wp2_with fail;rw[←HQ.out];simp only[Bool.true_eq_false,↓reduceIte,h64];exact⟨rfl,rfl,vo,vt,HM7.out.o.m,HM7.out.o.o,HM7.out.mem,Fr.of HB7.out _⟩
 ·go_wp2_with fail
  rw[←hW6];clear hW6
  go_quiet(fail)
  have hb7:Below w.heap.size w (W6.drewN nq):=below_drewN HB6.out nq;clear k69 d3;obtain⟨W7,hW7⟩:∃W7,W7=W6.drewN nq:=⟨_,rfl⟩;rw[←hW7]at hb7⊢;have HP7:=Lib.hid ((H.out W7 hb7).pop HO.out (by have:=HNN.out;omega));have HB7:=Lib.hid hb7;clear hW7 hb7;go_wp2_with fail;refine HP7.out.mono ?_;rintro e w8⟨rfl,vo8,m8,f8,-,-⟩;have c65:=m8.c65;have c68:=m8.o.m.cells.c68;have c67:=m8.o.m.cells.c67;simp only[macV]at c68 c67;have HS:=Lib.hid (store4_mem (m8.below (Below.refl _ _).drew).mem hs (show s.pc+1<4294967296 by omega));have HM8:=Lib.hid (m8.below (Below.refl _ _).drew);have HF8:=Lib.hid f8;clear m8 f8;go_wp2_with fail;refine wp_region_still_tail 13 hmx (by kernel_rfl) ?_;simp only[List.take_succ_cons,List.take_zero,List.drop_succ_cons,List.drop_zero]
  repeat still_step
  refine wpStill_nil ?_;change wpList _ _ _ _ _ w8.drew;go_wp2_with fail;refine HS.out.mono ?_;rintro e w9⟨rfl,vt9,m9,f9⟩;have HM9:=Lib.hid (HM8.out.liftM m9 f9);have HF9:=Lib.hid (frM f9 b vo8);have g67:=HM9.out.o.m.cells.c67;have gf:=HM9.out.o.m.cells.fz;simp only[macV]at g67;clear m9 f9 c65 c68 c67;go_wp2_with fail
  go_end0
  rw[←HQ.out];have h65:¬64<(n:Int)+q:=by omega
  simp only[Bool.true_eq_false,↓reduceIte,if_neg h65];have:=HM9.out.setPc x;refine⟨rfl,vo8,vt9,by simpa using this,?_⟩;exact((((Fr.of HB7.out _).trans HF8.out).drew).trans HF9.out).trans (frB _ b vo8 M vt9 67 _)
end
section
variable {w0 w:World} {b:Nat} {K:MacK} {s:St} {vo:Value} {R:MacR} {M:MemK} {vt:Value} {logs:Bool} {tou:List (Nat×Bool)} {mb:Nat} {m:Img}
theorem MacB.c70 {V:MacV} (h:MacB w b K V):w.cell? ⟨b,70,none⟩=some (.int .u32 V.value):=by
 obtain⟨cs,h,r⟩:=h;exact(cell_of_row w b 70 _ _ _ h).trans r.c70
def LeavePost (mo:Mo) (b:Nat) (K:MacK) (s:St) (R:MacR) (M:MemK) (logs:Bool) (tou:List (Nat×Bool)) (vo vt:Value) (w:World) (n:Nat) (l:List Nat) (x top p r:Nat) (e:Ending) (w':World):Prop:=
 if top<p then ActFlt b K s R M logs tou vo vt w 6 [] e w'
 else if r=4294967295 then ActOk b K R M logs tou vo vt w ({s with life:=2,value:=x,sp:=p,ops:=l},touN M.N p 4 false) e w'
 else if mo.back r=false∨((n:Int)+1)<mo.depth r then ActFlt b K s R M logs tou vo vt w 7 (touN M.N p 4 false) e w'
 else if 64<((n:Int)+1) - mo.depth r+mo.need r then ActFlt b K s R M logs tou vo vt w 5 (touN M.N p 4 false) e w'
 else ActOk b K R M logs tou vo vt w ({s with sp:=p,pc:=r},touN M.N p 4 false) e w'
theorem leave_act {l:List Nat} {x:Nat} (h:Mach w b K s vo R M vt logs tou) (hh:Home w0 w (machF b vo M vt)) (hm:MAt w0 mb m) (hk:K.md=.pointer (some ⟨mb,0,none⟩)) (ho:s.ops=l++[x]) (hn:l.length≤65535) (hs:s.sp<4294967296) (ht:K.top<4294967296) (o a:Nat) (ha:a<4294967296)
 (hr9:loadN s.data ((s.sp+a)%4294967296) 4<4294967296) :
 Calls Tryz.prog 74 #[.pointer (some ⟨b,0,none⟩),.agg #[.int .u8 o,.int .u32 a]] w (LeavePost (moOf m) b K s R M logs tou vo vt w l.length l x K.top ((s.sp+a)%4294967296) (loadN s.data ((s.sp+a)%4294967296) 4)):=by
 have hmx:Tryz.prog.follows .mixedOrders=true:=by kernel_rfl
 obtain⟨W1,hW1⟩:∃W1,W1=w.alloc (.cells #[.int .u8 o,.int .u32 a] 106):=⟨_,rfl⟩;have hb1:Below w.heap.size w W1:=by rw[hW1];exact Bel.new _ _
 have hh1:W1.heap[w.heap.size]?=some (.cells #[.int .u8 o,.int .u32 a] 106 (0,0)):=by rw[hW1];exact heap_alloc_new _ _
 have d1:=cell_of_row W1 w.heap.size 1 _ _ _ hh1;have H:=Lib.hid (fun W (hW:Below w.heap.size w W)=>h.below hW);have c68:=(h.below hb1).o.m.cells.c68;simp only[macV]at c68;have HB1:=Lib.hid hb1;have HO:=Lib.hid ho;obtain⟨n,hnn⟩:∃n,n=l.length:=⟨_,rfl⟩;rw[←hnn]at hn⊢;have HNN:=Lib.hid hnn;obtain⟨p,hp⟩:∃p,p=(s.sp+a)%4294967296:=⟨_,rfl⟩;have hpv:IntKind.u32.wrap ((s.sp:Int)+(a:Int))=(p:Int):=by rw[IntKind.wrap_u32];omega
 have hp9:p<4294967296:=by omega
 rw[←hp]at hr9⊢;obtain⟨r,hr⟩:∃r,r=loadN s.data p 4:=⟨_,rfl⟩;rw[←hr]at hr9⊢;have HR9:=Lib.hid hr;have HH:=Lib.hid hh;have HMt:=Lib.hid (fun W F (hW:Home w0 W F)=>hW.mat hm);have hdq:=mo_depth m r;have hnq:=mo_need hm.k r;have hdb:=depth_bd m r;have hqb:=need_bd m r;unfold LeavePost;rw[hdq,hnq];have HBk0:=Lib.hid (fun W F (hW:Home w0 W F)=>(HMt.out W F hW).back r hr9);have HDp0:=Lib.hid (fun W F (hW:Home w0 W F)=>(HMt.out W F hW).depth r hr9);have HPr0:=Lib.hid (fun W F (hW:Home w0 W F)=>(HMt.out W F hW).proc r hr9);generalize (moOf m).back r=bk at*;generalize depthAt (flowN m.code m.js).1 r=dd at*;generalize needN m r=q at*;generalize decide (r<m.code.length)=bb at*;unfold prcV at HPr0;generalize prcN m r=pp at*;obtain⟨p0,p1,p2⟩:=pp;simp only at HPr0
 generalize hRR:(fun e w'=>if K.top<p then ActFlt b K s R M logs tou vo vt w 6 [] e w'
  else if r=4294967295 then ActOk b K R M logs tou vo vt w ({s with life:=2,value:=x,sp:=p,ops:=l},touN M.N p 4 false) e w'
  else if bk=false∨((n:Int)+1)<dd then ActFlt b K s R M logs tou vo vt w 7 (touN M.N p 4 false) e w'
  else if 64<((n:Int)+1) - dd+q then ActFlt b K s R M logs tou vo vt w 5 (touN M.N p 4 false) e w'
  else ActOk b K R M logs tou vo vt w ({s with sp:=p,pc:=r},touN M.N p 4 false) e w')=Q
 have HQ:=Lib.hid hRR;clear h hh ho hb1 hnn hRR hh1 hr hp hm hdq hnq;go_enter Tryz.func74,Tryz.ntmps74;go_wp2_with fail;rw[←hW1];clear hW1
 go_quiet(fail)
 have hb2:Below w.heap.size w (W1.drewN nq):=below_drewN HB1.out nq;clear c68 d1;obtain⟨W2,hW2⟩:∃W2,W2=W1.drewN nq:=⟨_,rfl⟩;rw[←hW2]at hb2⊢;have hm2:=H.out W2 hb2;have c64:=hm2.o.m.cells.c64;have c65:=hm2.c65;have HM2:=Lib.hid hm2;have HLd:=Lib.hid (load4_mem hm2.mem hp9);have HB2:=Lib.hid hb2;have HH2:=Lib.hid (HH.out.fr (Fr.of hb2 _));clear hW2 hm2 hb2;by_cases h1:K.top<p
 ·have h1i:(K.top:Int)<(p:Int):=by omega
  go_wp2_with fail;rw[←HQ.out];simp only[if_pos h1];exact⟨rfl,rfl,vo,vt,HM2.out.o.m,HM2.out.o.o,HM2.out.nil.mem,Fr.of HB2.out _⟩
 have h1i:¬(K.top:Int)<(p:Int):=by omega
 go_wp2_with fail;refine HLd.out.mono ?_;rintro e w4⟨e9,vt4,m4,f4⟩;rw[←HR9.out]at e9;subst e9;have hm4:=HM2.out.liftM m4 f4;have hm4:Mach w4 b K s vo R M vt4 logs (touL logs tou (touN M.N p 4 false)):=hm4;have HF4:=Lib.hid ((Fr.of HB2.out _).trans (frM f4 b vo));have HH4:=Lib.hid (HH2.out.fr (frM f4 b vo));have HM4:=Lib.hid hm4;have HPop:=Lib.hid (hm4.pop HO.out (by have:=HNN.out;omega));obtain⟨g,cap,hv,-⟩:=hm4.top1 HO.out;have k0:=hm4.o.m.c0;rw[hk]at k0;have k69:=hm4.o.m.cells.c69;simp only[macV]at k69;rw[hv,←HNN.out]at k69;have hbl:b<w4.heap.size:=hm4.lt;clear hm4 m4 f4 c64 c65 hv;by_cases h2:r=4294967295
 ·subst h2
  go_wp2_with fail;refine HPop.out.mono ?_;rintro e w5⟨rfl,vo5,m5,f5,-,-⟩;have c70:=m5.o.m.c70;have cf:=m5.o.m.cells.fz;have c68:=m5.o.m.cells.c68;have c66:=m5.o.m.cells.c66;have HM5:=Lib.hid m5;have HF5:=Lib.hid f5;clear m5 f5;simp only[macV]at c70 c68 c66;go_wp2_with fail;have:=((HM5.out.setValue x).setSp p).setLife 2;refine bodyPost_ret (v:=.tuple #[]) (results_none Tryz.results74 _ _ _) rfl ?_;rw[←HQ.out];simp only[if_neg h1,↓reduceIte];exact⟨rfl,vo5,vt4,this,(((HF4.out.trans HF5.out).trans (frB _ b vo5 M vt4 70 _)).trans (frB _ b vo5 M vt4 68 _)).trans (frB _ b vo5 M vt4 66 _)⟩
 have h2i:¬((r:Int)=4294967295):=by omega
 have h2b:((r:Int)==4294967295)=false:=by simpa using h2i
 have HBk:=Lib.hid (HBk0.out w4.drew _ (HH4.out.fr (Fr.of (Below.refl _ _).drew _)));by_cases h3:bk=false
 ·subst h3
  go_wp2_with fail;refine wp_region_held_drew (S:=(fun W=>W.cell? ⟨b,0,none⟩=some (.pointer (some ⟨mb,0,none⟩))∧W.cell? ⟨b,69,none⟩=some (.slice (some ⟨g,0,none⟩) (n+1) cap))) (by kernel_rfl) (⟨k0,k69⟩:w4.drew.cell? ⟨b,0,none⟩=some (.pointer (some ⟨mb,0,none⟩))∧w4.drew.cell? ⟨b,69,none⟩=some (.slice (some ⟨g,0,none⟩) (n+1) cap)) (fun hHeld=>?_);refine tk 0 hHeld ?_;refine tk 1 hHeld ?_;refine tk 2 hHeld ?_;refine tk 3 hHeld ?_;refine tk 4 hHeld ?_;refine rd 5 _ fun K hK=>?_;go_simp;refine HBk.out.mono ?_;rintro e w5⟨rfl,hb5⟩;have hH5:=And.intro ((hb5.cell (p:=⟨b,0,none⟩) hbl).trans k0) ((hb5.cell (p:=⟨b,69,none⟩) hbl).trans k69);refine hK.out _ _ hH5 (fun _=>?_);clear hK K
  try simp only[Act.put,aT,aZ,aS]
  refine tk 6 hH5 ?_;refine tk 7 hH5 ?_;refine wpAnyH_take (i:=8) (v:=undef) (by simp only[List.getElem?_toArray,List.getElem?_cons_succ,List.getElem?_cons_zero,Option.some.injEq];rfl) (by kernel_rfl) (by kernel_rfl) (by kernel_rfl) (by exact fun _ _ _ h=>h) (Or.inr ⟨by rfl,rfl⟩) hH5 ?_
  try simp only[Act.put,aT,aZ,aS]
  refine wpAnyH_take (i:=9) (v:=undef) (by simp only[List.getElem?_toArray,List.getElem?_cons_succ,List.getElem?_cons_zero,Option.some.injEq];rfl) (by kernel_rfl) (by kernel_rfl) (by kernel_rfl) (by exact fun _ _ _ h=>h) (Or.inr ⟨by rfl,rfl⟩) hH5 ?_
  try simp only[Act.put,aT,aZ,aS]
  refine wpAnyH_take (i:=10) (v:=undef) (by simp only[List.getElem?_toArray,List.getElem?_cons_succ,List.getElem?_cons_zero,Option.some.injEq];rfl) (by kernel_rfl) (by kernel_rfl) (by kernel_rfl) (by exact fun _ _ _ h=>h) (Or.inr ⟨by rfl,rfl⟩) hH5 ?_
  try simp only[Act.put,aT,aZ,aS]
  refine wpAnyH_take (i:=11) (v:=undef) (by simp only[List.getElem?_toArray,List.getElem?_cons_succ,List.getElem?_cons_zero,Option.some.injEq];rfl) (by kernel_rfl) (by kernel_rfl) (by kernel_rfl) (by exact fun _ _ _ h=>h) (Or.inr ⟨by rfl,rfl⟩) hH5 ?_
  try simp only[Act.put,aT,aZ,aS]
  refine wpAnyH_take (i:=12) (v:=undef) (by simp only[List.getElem?_toArray,List.getElem?_cons_succ,List.getElem?_cons_zero,Option.some.injEq];rfl) (by kernel_rfl) (by kernel_rfl) (by kernel_rfl) (by exact fun _ _ _ h=>h) (Or.inr ⟨by rfl,rfl⟩) hH5 ?_
  try simp only[Act.put,aT,aZ,aS]
  refine wpAnyH_take (i:=13) (v:=undef) (by simp only[List.getElem?_toArray,List.getElem?_cons_succ,List.getElem?_cons_zero,Option.some.injEq];rfl) (by kernel_rfl) (by kernel_rfl) (by kernel_rfl) (by exact fun _ _ _ h=>h) (Or.inr ⟨by rfl,rfl⟩) hH5 ?_
  try simp only[Act.put,aT,aZ,aS]
  refine wpAnyH_take (i:=14) (v:=undef) (by simp only[List.getElem?_toArray,List.getElem?_cons_succ,List.getElem?_cons_zero,Option.some.injEq];rfl) (by kernel_rfl) (by kernel_rfl) (by kernel_rfl) (by exact fun _ _ _ h=>h) (Or.inr ⟨by rfl,rfl⟩) hH5 ?_
  try simp only[Act.put,aT,aZ,aS]
  refine wpAnyH_take (i:=15) (v:=undef) (by simp only[List.getElem?_toArray,List.getElem?_cons_succ,List.getElem?_cons_zero,Option.some.injEq];rfl) (by kernel_rfl) (by kernel_rfl) (by kernel_rfl) (by exact fun _ _ _ h=>h) (Or.inr ⟨by rfl,rfl⟩) hH5 ?_
  try simp only[Act.put,aT,aZ,aS]
  refine wpAnyH_take (i:=16) (v:=undef) (by simp only[List.getElem?_toArray,List.getElem?_cons_succ,List.getElem?_cons_zero,Option.some.injEq];rfl) (by kernel_rfl) (by kernel_rfl) (by kernel_rfl) (by exact fun _ _ _ h=>h) (Or.inr ⟨by rfl,rfl⟩) hH5 ?_
  try simp only[Act.put,aT,aZ,aS]
  refine wpAnyH_take (i:=17) (v:=undef) (by simp only[List.getElem?_toArray,List.getElem?_cons_succ,List.getElem?_cons_zero,Option.some.injEq];rfl) (by kernel_rfl) (by kernel_rfl) (by kernel_rfl) (by exact fun _ _ _ h=>h) (Or.inr ⟨by rfl,rfl⟩) hH5 ?_
  try simp only[Act.put,aT,aZ,aS]
  refine wpAnyH_take (i:=18) (v:=undef) (by simp only[List.getElem?_toArray,List.getElem?_cons_succ,List.getElem?_cons_zero,Option.some.injEq];rfl) (by kernel_rfl) (by kernel_rfl) (by kernel_rfl) (by exact fun _ _ _ h=>h) (Or.inr ⟨by rfl,rfl⟩) hH5 ?_
  try simp only[Act.put,aT,aZ,aS]
  refine wpAnyH_take (i:=19) (v:=undef) (by simp only[List.getElem?_toArray,List.getElem?_cons_succ,List.getElem?_cons_zero,Option.some.injEq];rfl) (by kernel_rfl) (by kernel_rfl) (by kernel_rfl) (by exact fun _ _ _ h=>h) (Or.inr ⟨by rfl,rfl⟩) hH5 ?_
  try simp only[Act.put,aT,aZ,aS]
  refine tk 20 hH5 ?_;refine wpAnyH_done (by kernel_rfl) ?_ _;have HB5:=Lib.hid (Bel.tr (Below.refl w4.heap.size w4).drew hb5);have HM5:=Lib.hid (HM4.out.below HB5.out);go_wp2_with fail;rw[←HQ.out];simp only[if_neg h1,if_neg h2,true_or,↓reduceIte];exact⟨rfl,rfl,vo,vt4,HM5.out.o.m,HM5.out.o.o,HM5.out.mem,HF4.out.trans (Fr.of HB5.out _)⟩
 have h3t:bk=true:=by simpa using h3
 subst h3t;have hn1:((n+1:Nat):Int)=(n:Int)+1:=by omega
 by_cases h4:((n:Int)+1)<dd
 ·go_wp2_with fail
  first|(go_region_held3(fun W=>W.cell? ⟨b,0,none⟩=some (.pointer (some ⟨mb,0,none⟩))∧W.cell? ⟨b,69,none⟩=some (.slice (some ⟨g,0,none⟩) (n+1) cap))
   (first|assumption|exact⟨by assumption,by assumption⟩)
   (first
    | (go_at_call 120;refine HBk.out.mono ?_;rintro e w5⟨rfl,hb5⟩;have x1:=(hb5.cell (p:=⟨b,0,none⟩) hbl).trans k0;have x2:=(hb5.cell (p:=⟨b,69,none⟩) hbl).trans k69;have HB5:=Lib.hid (Bel.tr (Below.refl w4.heap.size w4).drew hb5);have HDp:=Lib.hid (HDp0.out w5 _ (HH4.out.fr (Fr.of HB5.out _)));have hbl5:b<w5.heap.size:=Nat.lt_of_lt_of_le hbl HB5.out.size;clear hb5)
    | (go_at_call 55; refine HDp.out.mono ?_; rintro e w6 ⟨rfl, hb6⟩; have y1 := (hb6.cell (p := ⟨b, 0, none⟩) hbl5).trans x1; have y2 := (hb6.cell (p := ⟨b, 69, none⟩) hbl5).trans x2; have HB6 := Lib.hid (Bel.tr HB5.out hb6); clear hb6))) | fail "held"
  have HM6:=Lib.hid (HM4.out.below HB6.out);go_wp2_with fail;rw[←HQ.out];simp only[if_neg h1,if_neg h2,h4,or_true,↓reduceIte];exact⟨rfl,rfl,vo,vt4,HM6.out.o.m,HM6.out.o.o,HM6.out.mem,HF4.out.trans (Fr.of HB6.out _)⟩
 go_wp2_with fail
 first|(go_region_held3(fun W=>W.cell? ⟨b,0,none⟩=some (.pointer (some ⟨mb,0,none⟩))∧W.cell? ⟨b,69,none⟩=some (.slice (some ⟨g,0,none⟩) (n+1) cap))
  (first|assumption|exact⟨by assumption,by assumption⟩)
  (first
   | (go_at_call 120;refine HBk.out.mono ?_;rintro e w5⟨rfl,hb5⟩;have x1:=(hb5.cell (p:=⟨b,0,none⟩) hbl).trans k0;have x2:=(hb5.cell (p:=⟨b,69,none⟩) hbl).trans k69;have HB5:=Lib.hid (Bel.tr (Below.refl w4.heap.size w4).drew hb5);have HDp:=Lib.hid (HDp0.out w5 _ (HH4.out.fr (Fr.of HB5.out _)));have hbl5:b<w5.heap.size:=Nat.lt_of_lt_of_le hbl HB5.out.size;clear hb5)
   | (go_at_call 55; refine HDp.out.mono ?_; rintro e w6 ⟨rfl, hb6⟩; have y1 := (hb6.cell (p := ⟨b, 0, none⟩) hbl5).trans x1; have y2 := (hb6.cell (p := ⟨b, 69, none⟩) hbl5).trans x2; have HB6 := Lib.hid (Bel.tr HB5.out hb6); clear hb6))) | fail "held"
 have HPr:=Lib.hid (HPr0.out w6 _ (HH4.out.fr (Fr.of HB6.out _)));clear x1 x2 k0 k69;go_wp2_with fail;refine HPr.out.mono ?_;rintro e w7⟨rfl,hb7⟩;obtain⟨W8,hW8⟩:∃W8,W8=w7.alloc (.cells #[.int .u32 p0,.int .u32 p1,.int .u32 p2,.int .i64 q] 126):=⟨_,rfl⟩;have hb8:Below w4.heap.size w4 W8:=by rw[hW8];exact Bel.al (Bel.tr HB6.out hb7) _
 have hh8:W8.heap[w7.heap.size]?=some (.cells #[.int .u32 p0,.int .u32 p1,.int .u32 p2,.int .i64 q] 126 (0,0)):=by rw[hW8];exact heap_alloc_new _ _
 have d3:=cell_of_row W8 w7.heap.size 3 _ _ _ hh8;have hl8:w7.heap.size<W8.heap.size:=(Array.getElem?_eq_some_iff.1 hh8).1;have hm8:=HM4.out.below hb8;have z0:=hm8.o.m.c0;rw[hk]at z0;have z69:=hm8.o.m.cells.c69;simp only[macV]at z69;obtain⟨g8,cap8,hv8,-⟩:=hm8.top1 HO.out;rw[hv8,←HNN.out]at z69;have hbl8:b<W8.heap.size:=hm8.lt;have HB8:=Lib.hid hb8;have HDq:=Lib.hid (HDp0.out W8.drew _ ((HH4.out.fr (Fr.of hb8 _)).fr (Fr.of (Below.refl _ _).drew _)));have w1:IntKind.i64.wrap (((n:Int)+1) - dd)=((n:Int)+1) - dd:=IntWalk.i64_in _ (by omega);have w2:IntKind.i64.wrap (((n:Int)+1) - dd+q)=((n:Int)+1) - dd+q:=IntWalk.i64_in _ (by omega);clear hb7 hb8 hh8 hm8 hv8 y1 y2;go_wp2_with fail;rw[←hW8];clear hW8;have h45:¬(false=false→False):=fun h=>h rfl;by_cases h5:64<((n:Int)+1) - dd+q
 all_goals
  first|(go_region_held3(fun W=>W.cell? ⟨b,0,none⟩=some (.pointer (some ⟨mb,0,none⟩))∧W.cell? ⟨b,69,none⟩=some (.slice (some ⟨g8,0,none⟩) (n+1) cap8)∧W.cell? ⟨w7.heap.size,3,none⟩=some (.int .i64 q))
   (first|assumption|exact⟨by assumption,by assumption,by assumption⟩)
   ((go_at_call 55; refine HDq.out.mono ?_; rintro e w9 ⟨rfl, hb9⟩; have y0 := (hb9.cell (p := ⟨b, 0, none⟩) hbl8).trans z0; have y69 := (hb9.cell (p := ⟨b, 69, none⟩) hbl8).trans z69; have y3 := (hb9.cell (p := ⟨w7.heap.size, 3, none⟩) hl8).trans d3; have HB9 := Lib.hid (Bel.tr (Bel.tr HB8.out (Below.refl _ _).drew) hb9); clear hb9))) | fail "held"
 ·have HM9:=Lib.hid (HM4.out.below HB9.out)
  go_wp2_with fail;rw[←HQ.out];have h7:¬(true=false∨((n:Int)+1)<dd):=by rintro(e|e);cases e;omega
  simp only[if_neg h1,if_neg h2,if_neg h7,if_pos h5];exact⟨rfl,rfl,vo,vt4,HM9.out.o.m,HM9.out.o.o,HM9.out.mem,HF4.out.trans (Fr.of HB9.out _)⟩
 ·have HM9:=Lib.hid (HM4.out.below HB9.out)
  have c67:=HM9.out.o.m.cells.c67;have c68:=HM9.out.o.m.cells.c68;have cf:=HM9.out.o.m.cells.fz;simp only[macV]at c67 c68;go_wp2_with fail
  go_end0
  have:=(HM9.out.setSp p).setPc r;rw[←HQ.out];have h6:¬64<((n:Int)+1) - dd+q:=by omega
  have h7:¬(true=false∨((n:Int)+1)<dd):=by rintro(e|e);cases e;omega
  simp only[if_neg h1,if_neg h2,if_neg h6,if_neg h7];exact⟨rfl,vo,vt4,this,((HF4.out.trans (Fr.of HB9.out _)).trans (frB _ b vo M vt4 68 _)).trans (frB _ b vo M vt4 67 _)⟩
end
section
variable {w:World} {p g c N:Nat} {vt:Value} {d:List Nat} {logs:Bool} {tou:List (Nat×Bool)}
theorem bits_mem (h:MemAt w p g c N vt d logs tou) {k:Nat} (hk8:8≤k) (hk16:k≤16) (hN:N=2 ^ k) :
 Calls Tryz.prog 117 #[.pointer (some ⟨p,0,none⟩)] w fun e w'=>e=.returned (.int .i64 k)∧Below w.heap.size w w':=by
 have HM:=Lib.hid (fun W (hW:Below w.heap.size w W)=>made_any (h.below hW));have HC:=Lib.hid (fun W (hW:Below w.heap.size w W)=>(cells379 (h.below hW).hp).1.1)
 have HSh:=Lib.hid (fun (j:Nat) (hj:j≤k)=>(show(IntKind.i64.wrap (2 ^ j)=((2 ^ j:Nat):Int))∧(j<k→2 ^ j<N)∧(j=k→2 ^ j=N) by
  have h1:2 ^ j≤2 ^ 16:=Nat.pow_le_pow_right (by decide) (by omega);have h2:((2:Int) ^ j)=((2 ^ j:Nat):Int):=by simp
  have h3:(2:Nat) ^ 16=65536:=by decide
  rw[h3]at h1
  refine⟨by rw[h2];exact IntWalk.i64_in _ (by generalize 2 ^ j=z at*;omega),fun h=>by rw[hN];exact Nat.pow_lt_pow_right (by decide) h,fun h=>by rw[hN,h]⟩))
 clear h hN;go_enter Tryz.func117,Tryz.ntmps117;go_wp2_with fail
 go_loopw[3] (fun i wr=>∃j:Nat,j≤k∧i=.int .i64 j∧Below w.heap.size w wr) (fun i _=>k - (intOf i).toNat)
 case atStart=>exact⟨0,Nat.zero_le _,rfl,Below.refl _ _⟩
 case round=>
  obtain⟨j,hj,rfl,hb⟩:=hrel;have c0:=HC.out _ hb;have HM1:=Lib.hid (HM.out _ (hb.drew));have HB:=Lib.hid hb;obtain⟨s1,s2,s3⟩:=HSh.out j hj;clear hb;by_cases hjk:j<k
  ·have s4:IntKind.i64.wrap (2 ^ j)<(N:Int):=by rw[s1];have:=s2 hjk;omega
   have s5:IntKind.i64.wrap ((j:Int)+1)=(j:Int)+1:=IntWalk.i64_in _ (by omega);clear s1 s2 s3;go_wp2_with fail
   first|(go_region_held3(fun W=>W.cell? ⟨p,0,none⟩=some (.slice (some ⟨g,0,none⟩) N c))
    (first|assumption)
    ((go_at_call 69; refine HM1.out.mono ?_; rintro e w3 ⟨rfl, rfl⟩))) | fail "held"
   go_wp2_with fail
   go_roundw
   case rel=>exact⟨j+1,by omega,by go_num,HB.out.drew⟩
   case measure=>simp[intOf];omega
  ·have s4:¬IntKind.i64.wrap (2 ^ j)<(N:Int):=by rw[s1];have:=s3 (by omega);omega
   have hjk2:j=k:=by omega
   subst hjk2;clear s1 s2 s3;go_wp2_with fail
   first|(go_region_held3(fun W=>W.cell? ⟨p,0,none⟩=some (.slice (some ⟨g,0,none⟩) N c))
    (first|assumption)
    ((go_at_call 69; refine HM1.out.mono ?_; rintro e w3 ⟨rfl, rfl⟩))) | fail "held"
   go_wp2_with fail;go_ret;exact⟨rfl,HB.out.drew⟩
end
def wF (p g:Nat) (vt vr:Value):Nat→Prop:=fun k=>memF p g vt k∨vr.ownBlock=some k
theorem row_mem_apart {w:World} {p g c N:Nat} {vt:Value} {d:List Nat} {logs:Bool} {tou:List (Nat×Bool)} {B n:Nat} {v:Value} {xs:List Value} (h:w.ownsRow B 25 1 v n xs) (hm:MemAt w p g c N vt d logs tou):∀k,v.ownBlock=some k→¬memF p g vt k:=by
 intro k hk hf;rcases hf with rfl|rfl|hf
 ·exact not_row_of h hm.hp (by decide) hk
 ·exact own_apart (own_base h) hm.row (by decide) _ hk rfl
 ·exact own_apart (own_base h) hm.tr (by decide) _ hk hf
theorem wordsM_succ (d:List Nat) (sp k:Nat):wordsM d sp (k+1)=wordsM d sp k++[loadN d ((sp+4+4*k)%4294967296) 4]:=by
 unfold wordsM;rw[List.range_succ,List.map_append];rfl
theorem wordsT_succ (z sp k:Nat):wordsT z sp (k+1)=wordsT z sp k++touN z ((sp+4+4*k)%4294967296) 4 false:=by
 unfold wordsT;rw[List.range_succ,List.flatMap_append];simp
theorem wordsM_length (d:List Nat) (sp k:Nat):(wordsM d sp k).length=k:=by simp[wordsM]
theorem callFunc329 (args:Array Value) (W:World):(callFunc 118 args).run Tryz.prog W=.ok (.enter 118 args) W:=by simp[go_sem]
section
variable {w:World} {p g c N:Nat} {vt:Value} {d:List Nat} {logs:Bool} {tou:List (Nat×Bool)} {v:Value} {gr:List (Nat×Int)}
theorem words_no (hg:GateAt w v gr) (x sp:Nat) (hx:x<4294967296) (hn:grantedN gr x=none) (vm:Value) :
 Calls Tryz.prog 66 #[v,vm,.int .u32 sp,.int .u32 x] w fun e w'=>e=.returned (.tuple #[.slice none 0 0,.bool false])∧w=w':=by
 have HG:=Lib.hid (granted_any hg x hx);rw[hn]at HG;clear hg hn;go_enter Tryz.func66,Tryz.ntmps66;go_wp2_with fail;refine HG.out.mono ?_;rintro e w1⟨rfl,rfl⟩;go_wp2_with fail;go_ret2;exact⟨rfl,rfl⟩
def WordsPost (p g c N:Nat) (vt:Value) (d:List Nat) (logs:Bool) (tou:List (Nat×Bool)) (sp n:Nat) (w:World) (e:Ending) (w':World):Prop:=
 ∃vt' vw,e=.returned (.tuple #[vw,.bool true])∧w'.ownsRow w.heap.size 25 1 vw n (encN .u32 (wordsM d sp n))∧MemAt w' p g c N vt' d logs (touL logs tou (wordsT N sp n))∧Fr w w' (memF p g vt) (wF p g vt' vw)
theorem words_yes (hg:GateAt w v gr) (hm:MemAt w p g c N vt d logs tou) (x sp:Nat) (hx:x<4294967296) (hs:sp<4294967296) {n:Nat} (hn:grantedN gr x=some (n:Int)) (hn15:n≤15) :
 Calls Tryz.prog 66 #[v,.pointer (some ⟨p,0,none⟩),.int .u32 sp,.int .u32 x] w (WordsPost p g c N vt d logs tou sp n w):=by
 have HG:=Lib.hid (granted_any hg x hx);rw[hn]at HG;obtain⟨k,hk8,hk16,hNk⟩:=hm.k;have HBi:=Lib.hid (bits_mem hm hk8 hk16 hNk);have HM0:=Lib.hid (fun W (hW:Below w.heap.size w W)=>hm.below hW);have hk0:((k:Int)==0)=false:=by simp;omega
 obtain⟨i25,hi25,hi250,hi251,hi252⟩:=info_parts inf25;have hbs:=bs23_1;have hmf:∀(fn:Fn) (first cap:Array Value) (w:World),(Instr.makeFunc fn first cap).run Tryz.prog w=.ok (.func fn first cap) w:=fun _ _ _ _=>rfl;have hcf:=callFunc329;clear hg hn hm hNk;go_enter Tryz.func66,Tryz.ntmps66;go_wp2_with fail;refine HG.out.mono ?_;rintro e w1⟨rfl,rfl⟩;go_wp2_with fail;refine HBi.out.mono ?_;rintro e w1⟨rfl,hb1⟩;have HB1:=Lib.hid hb1;clear hb1;go_wp2_with fail
 go_loopw[13,14,31] (fun a bq i wr=>∃(j:Nat) (vr vt':Value),j≤n∧i=.int .i64 j∧vr=a∧wr.ownsRow 0 25 1 vr j (encN .u32 (wordsM d sp j))∧(∀k,vr.ownBlock=some k→w.heap.size≤k)∧MemAt wr p g c N vt' d logs (touL logs tou (wordsT N sp j))∧Fr w wr (memF p g vt) (wF p g vt' vr)) (fun a bq i _=>n - (intOf i).toNat)
 case atStart=>
  refine⟨0,.slice none 0 0,vt,Nat.zero_le _,rfl,rfl,World.ownsRow_nil _ _ _ _,(fun k e=>by cases e),?_,?_⟩
  ·have:=HM0.out w1 HB1.out
   rw[show wordsT N sp 0=[]from rfl,touL_nil logs this.tl];exact this
  ·exact(Fr.of HB1.out _).mono (fun _ e=>e) (fun i e=>e.elim .inl (fun e=>by cases e))
 case round=>
  obtain⟨j,vr,vt',hj,rfl,rfl,hrow,hlo,hmem,hfr⟩:=hrel;have HLo:=Lib.hid hlo;clear hlo;by_cases hjn:j<n
  ·obtain⟨va,vc,rfl,-⟩:=own_sl hrow
   have hnl:(j:Int)<(n:Int):=by omega
   have hw1:IntKind.i64.wrap ((j:Int)+1)=(j:Int)+1:=IntWalk.i64_in _ (by omega);obtain⟨q,hq⟩:∃q,q=(sp+4+4*j)%4294967296:=⟨_,rfl⟩;have hqv:((sp:Int)+4+4*(j:Int))%4294967296=(q:Int):=by omega
   have hq9:q<4294967296:=by omega
   have HL:=Lib.hid (load4_mem hmem hq9);have HQV:=Lib.hid hqv;clear hqv;have HR:=Lib.hid hrow;have HF:=Lib.hid hfr;have HAp:=Lib.hid (row_mem_apart hrow hmem);have HQ:=Lib.hid hq;clear hrow hmem hfr hq;go_wp2_with fail
   try rw[HQV.out]
   refine HL.out.mono ?_;rintro e w2⟨e9,vt2,m2,f2⟩;subst e9;have HM2:=Lib.hid m2;have HF2:=Lib.hid f2;have HR2:=Lib.hid (own_fr HR.out f2 (fun g0 e e2=>HAp.out g0 e e2));have hsz:w.heap.size≤w2.heap.size:=Nat.le_trans HF.out.size f2.size;have hL63:j+1≤65537:=by omega
   obtain⟨y,hy⟩:∃y,y=loadN d q 4:=⟨_,rfl⟩;rw[←hy];have HY:=Lib.hid hy;clear m2 f2 hy
   go_wp2_with((with_reducible refine wpList_append1B (o:=⟨some 44,.call {callee:=.builtin .append,args:=#[.tmp 34,.tmp 43],argTypes:=#[23,23]},_,_,_,none⟩) rfl _ _ 23 rfl 25 i25 (.int .u32 0) 1 4 Tryz.underlying23 hi25 hi250 hi251 hi252 ?_ ?_ _ _ _ HR2.out _ _ w2.heap.size ?_ ?_ ?_ ?_ ?_ ?_ ?_ ?_);rfl;decide;rfl;rfl;rfl;rfl;(simp[Value.oneCell']);(unfold maxLen;omega);omega;intro g9 c9 w9 o9 r9 hl9;have HR9:=Lib.hid r9;have HO9:=Lib.hid o9;clear r9 o9)
   generalize hv9:Value.slice (some ⟨g9,0,none⟩) (j+1) c9=v9 at*
   go_roundw
   case rel=>
    have hF9:Fr w2 w9 (wF p g vt2 (.slice va j vc)) (wF p g vt2 v9):=Fr.grew (F:=wF p g vt2 (.slice va j vc)) (fun g e=>.inr e) HR9.out (F':=wF p g vt2 v9) (fun k hk=>hk.elim (fun e=>.inl (.inl e)) .inr);have hF2:Fr wr w2 (wF p g vt' (.slice va j vc)) (wF p g vt2 (.slice va j vc)):=HF2.out.mono (fun i e=>.inl e) (fun i e=>e.elim .inr (fun e=>.inl (.inr e)));refine⟨j+1,v9,vt2,by omega,by go_num,rfl,?_,?_,?_,?_⟩
    ·rw[wordsM_succ,←HQ.out,←HY.out,encN_append];exact HO9.out
    ·intro k hk
     exact(HR9.out.2 k hk).elim (HLo.out k) (fun e=>Nat.le_trans hsz e)
    ·rw[wordsT_succ,←HQ.out,←touL_touL]
     exact HM2.out.fr (Fr.grew (F:=fun k=>(Value.slice va j vc).ownBlock=some k) (fun g e=>e) HR9.out (F':=fun k=>v9.ownBlock=some k) (fun k hk=>.inr hk)) (fun k hk e=>row_mem_apart HR2.out HM2.out k e hk)
    ·exact(HF.out.trans hF2).trans hF9
   case measure=>simp[intOf];omega
  ·have hjn2:j=n:=by omega
   subst hjn2;have HR:=Lib.hid hrow;have HM:=Lib.hid hmem;have HF:=Lib.hid hfr;clear hrow hmem hfr;go_wp2_with fail;go_ret2;exact⟨vt',vr,rfl,own_from HR.out HLo.out,HM.out,HF.out⟩
end
def WsAt (w:World) (v:Value) (ws:List (Nat×List Nat)):Prop:=
 ∃a cap,v=.slice a ws.length cap∧ws.length≤cap∧cap≤maxLen∧(∀x∈ws,x.1<4294967296)∧
  (0<ws.length→∃b off,∃us:Nat→Value,a=some ⟨b,off,none⟩∧b<w.heap.size∧∀i,i<ws.length→w.cell? ⟨b,off+i*2,none⟩=some (.int .u32 (ws.getD i (0,[])).1)∧w.cell? ⟨b,off+i*2+1,none⟩=some (us i)∧Bytes w (us i) (ws.getD i (0,[])).2)
theorem WsAt.below {w w':World} {v:Value} {ws:List (Nat×List Nat)} (h:WsAt w v ws) (hb:Below w.heap.size w w'):WsAt w' v ws:=by
 obtain⟨a,cap,hv,h1,h2,h3,h4⟩:=h;refine⟨a,cap,hv,h1,h2,h3,fun h0=>?_⟩;obtain⟨b,off,us,ha,hl,hc⟩:=h4 h0;exact⟨b,off,us,ha,Nat.lt_of_lt_of_le hl hb.size,fun i hi=>⟨(hb.cell (p:=⟨b,off+i*2,none⟩) hl).trans (hc i hi).1,(hb.cell (p:=⟨b,off+i*2+1,none⟩) hl).trans (hc i hi).2.1,(hc i hi).2.2.below hb⟩⟩
def RepsAt (w:World) (v:Value) (rs:List Rep):Prop:=
 ∃a cap,v=.slice a rs.length cap∧rs.length≤cap∧cap≤maxLen∧(∀x∈rs,x.val<4294967296)∧
  (0<rs.length→∃b off,∃us:Nat→Value,a=some ⟨b,off,none⟩∧b<w.heap.size∧∀i,i<rs.length→w.cell? ⟨b,off+i*2,none⟩=some (.int .u32 (rs.getD i ⟨0,[]⟩).val)∧w.cell? ⟨b,off+i*2+1,none⟩=some (us i)∧WsAt w (us i) (rs.getD i ⟨0,[]⟩).ws)
theorem RepsAt.below {w w':World} {v:Value} {rs:List Rep} (h:RepsAt w v rs) (hb:Below w.heap.size w w'):RepsAt w' v rs:=by
 obtain⟨a,cap,hv,h1,h2,h3,h4⟩:=h;refine⟨a,cap,hv,h1,h2,h3,fun h0=>?_⟩;obtain⟨b,off,us,ha,hl,hc⟩:=h4 h0;exact⟨b,off,us,ha,Nat.lt_of_lt_of_le hl hb.size,fun i hi=>⟨(hb.cell (p:=⟨b,off+i*2,none⟩) hl).trans (hc i hi).1,(hb.cell (p:=⟨b,off+i*2+1,none⟩) hl).trans (hc i hi).2.1,(hc i hi).2.2.below hb⟩⟩
def repFits (ws:List (Nat×List Nat)):Bool:=decide (ws.length≤16)&&ws.all (fun x=>decide (x.2.length≤256))
theorem repFits_no {ws:List (Nat×List Nat)} {i:Nat} (hi:i<ws.length) (h:256<(ws.getD i (0,[])).2.length):repFits ws=false:=by
 unfold repFits;rw[Bool.and_eq_false_iff]
 right
 rw[List.all_eq_false];refine⟨ws.getD i (0,[]),?_,by simpa using h⟩;rw[List.getD_eq_getElem?_getD,List.getElem?_eq_getElem hi];exact List.getElem_mem hi
theorem repFits_yes {ws:List (Nat×List Nat)} (h1:ws.length≤16) (h:∀i,i<ws.length→(ws.getD i (0,[])).2.length≤256):repFits ws=true:=by
 unfold repFits;rw[Bool.and_eq_true];refine⟨by simpa using h1,?_⟩;rw[List.all_eq_true];intro x hx;obtain⟨i,hi,rfl⟩:=List.getElem_of_mem hx;have:=h i hi;rw[List.getD_eq_getElem?_getD,List.getElem?_eq_getElem hi]at this
 simpa using this
section
variable {w:World}
theorem cells162 {w:World} {g:Nat} {a b:Value} (h:w.heap[g]?=some (.cells #[a,b] 69 (0,0))):w.cell? ⟨g,0,none⟩=some a∧w.cell? ⟨g,1,none⟩=some b:=⟨cell_of_row w g 0 _ _ _ h,cell_of_row w g 1 _ _ _ h⟩
theorem rfits_any {v:Value} {ws:List (Nat×List Nat)} (h:WsAt w v ws) (x:Int) :
 Calls Tryz.prog 26 #[.agg #[.int .u32 x,v]] w fun e w'=>e=.returned (.bool (repFits ws))∧Below w.heap.size w w':=by
 obtain⟨a,cap,rfl,h1,h2,h3,h4⟩:=h;obtain⟨n,hn⟩:∃n,n=ws.length:=⟨_,rfl⟩;obtain⟨W1,hW1⟩:∃W1,W1=w.alloc (.cells #[.int .u32 x,.slice a n cap] 69):=⟨_,rfl⟩;have hb1:Below w.heap.size w W1:=by rw[hW1];exact Bel.new _ _
 have hh1:W1.heap[w.heap.size]?=some (.cells #[.int .u32 x,.slice a n cap] 69 (0,0)):=by rw[hW1];exact heap_alloc_new _ _
 have k1:=(cells162 hh1).2;have HN:=Lib.hid hn;have H3:=Lib.hid h4;have HB1:=Lib.hid hb1;have HH1:=Lib.hid hh1;rw[←hn]at h1;rw[show(Value.slice a ws.length cap)=.slice a n cap from by rw[hn]];by_cases h16:16<n
 ·have h16i:(16:Int)<(n:Int):=by omega
  have e9:repFits ws=false:=by unfold repFits;rw[decide_eq_false (by omega)];rfl
  rw[e9];clear hn h4 hb1 hh1 h3 e9;go_enter Tryz.func26,Tryz.ntmps26;go_wp2_with fail;go_ret;exact⟨rfl,Bel.new _ _⟩
 ·have h16i:¬(16:Int)<(n:Int):=by omega
  have HYes:=Lib.hid (fun (hc:∀i,i<n→(ws.getD i (0,[])).2.length≤256)=>repFits_yes (ws:=ws) (by omega) (by rw[←hn];exact hc));have HNo:=Lib.hid (fun (i:Nat) (hi:i<n) (hc:256<(ws.getD i (0,[])).2.length)=>repFits_no (ws:=ws) (by omega) hc);generalize repFits ws=res at*;rw[←hn]at H3;clear hn h4 hb1 hh1 h3;go_enter Tryz.func26,Tryz.ntmps26;go_wp2_with fail;rw[←hW1];clear hW1
  go_loopw[12] (fun i wr=>∃k:Nat,k≤n∧i=.int .i64 k∧(∀j,j<k→(ws.getD j (0,[])).2.length≤256)∧Below w.heap.size w wr) (fun i _=>n - (intOf i).toNat)
  case atStart=>exact⟨0,Nat.zero_le _,rfl,fun j hj=>absurd hj (by omega),HB1.out⟩
  case round=>
   obtain⟨k,hk,rfl,hc,hb⟩:=hrel;have HC:=Lib.hid hc;by_cases hkn:k<n
   ·obtain⟨b,off,us,rfl,hl,hcs⟩:=H3.out (by omega)
    obtain⟨q0,q1,q2⟩:=hcs k hkn;obtain⟨a2,c2,hv2,-⟩:=q2.1;have p0:=(hb.cell (p:=⟨b,off+k*2,none⟩) hl).trans q0;have p1:=(hb.cell (p:=⟨b,off+k*2+1,none⟩) hl).trans q1;rw[hv2]at p1;obtain⟨L,hL⟩:∃L,L=(ws.getD k (0,[])).2.length:=⟨_,rfl⟩;obtain⟨A,hA⟩:∃A,A=(ws.getD k (0,[])).1:=⟨_,rfl⟩;rw[←hL]at p1;rw[←hA]at p0;have HL:=Lib.hid hL;have HBB:=Lib.hid hb;have hkl:(k:Int)<(n:Int):=(by omega);have hk0:(0:Int)≤(k:Int):=(by omega);have hw1:IntKind.i64.wrap ((k:Int)+1)=(k:Int)+1:=IntWalk.i64_in _ (by omega);clear hcs q0 q1 q2 hv2 hL hA hb hc;by_cases hL6:256<L
    ·have hL6i:(256:Int)<(L:Int):=by omega
     go_wp2_with fail;go_ret;exact⟨by rw[HNo.out k hkn (by rw[←HL.out];exact hL6)];rfl,Bel.al HBB.out _⟩
    ·have hL6i:¬(256:Int)<(L:Int):=by omega
     go_wp2_with fail
     go_roundw
     case rel=>exact⟨k+1,by omega,by go_num,fun j hj=>by
      rcases Nat.lt_or_ge j k with h|h
      ·exact HC.out j h
      ·have e:j=k:=by omega
       subst e
       rw[←HL.out];omega,Bel.al HBB.out _⟩
     case measure=>simp[intOf];omega
   ·have hkn2:k=n:=by omega
    subst hkn2;have HBB:=Lib.hid hb;clear hb hc;go_wp2_with fail;go_ret;exact⟨by rw[HYes.out HC.out];rfl,HBB.out⟩
end
theorem callFunc125 (args:Array Value) (W:World):(callFunc 25 args).run Tryz.prog W=.ok (.enter 25 args) W:=by simp[go_sem]
section
variable {w:World}
theorem unfit_any {v:Value} {ws:List (Nat×List Nat)} (h:WsAt w v ws) (x:Int) :
 Calls Tryz.prog 25 #[.agg #[.int .u32 x,v]] w fun e w'=>e=.returned (.bool (!repFits ws))∧Below w.heap.size w w':=by
 have HF:=Lib.hid (fun W (hW:Below w.heap.size w W)=>rfits_any (h.below hW) x);obtain⟨a,cap,rfl,h1,h2,h3,h4⟩:=h;generalize repFits ws=q at*;generalize ws.length=n at*;clear h4 h3;go_enter Tryz.func25,Tryz.ntmps25;go_wp2_with fail;refine(HF.out _ (Bel.new _ _)).mono ?_;rintro e w1⟨rfl,hb⟩;have HB:=Lib.hid (Bel.tr (Bel.new _ _) hb);clear hb;go_wp2_with fail;go_ret;exact⟨rfl,HB.out⟩
def repsFit (rs:List Rep):Bool:=rs.all fun r=>repFits r.ws
theorem repsFit_no {rs:List Rep} {i:Nat} (hi:i<rs.length) (h:repFits (rs.getD i ⟨0,[]⟩).ws=false):repsFit rs=false:=by
 unfold repsFit;rw[List.all_eq_false];refine⟨rs.getD i ⟨0,[]⟩,?_,by simpa using h⟩;rw[List.getD_eq_getElem?_getD,List.getElem?_eq_getElem hi];exact List.getElem_mem hi
theorem repsFit_yes {rs:List Rep} (h:∀i,i<rs.length→repFits (rs.getD i ⟨0,[]⟩).ws=true):repsFit rs=true:=by
 unfold repsFit;rw[List.all_eq_true];intro x hx;obtain⟨i,hi,rfl⟩:=List.getElem_of_mem hx;have:=h i hi;rw[List.getD_eq_getElem?_getD,List.getElem?_eq_getElem hi]at this
 simpa using this
def IdxPost (res:Bool) (e:Ending):Prop:=(res=true∧e=.returned (.int .i64 (-1)))∨(res=false∧∃k:Nat,k≤9223372036854775807∧e=.returned (.int .i64 k))
theorem indexrep_any {v:Value} {rs:List Rep} (h:RepsAt w v rs) :
 Calls Tryz.prog 63 #[v,.func (.func 25) #[] #[]] w fun e w'=>IdxPost (repsFit rs) e∧Below w.heap.size w w':=by
 have HW:=Lib.hid (fun W (hW:Below w.heap.size w W)=>h.below hW);obtain⟨a,cap,rfl,h1,h2,h3,h4⟩:=h;obtain⟨n,hn⟩:∃n,n=rs.length:=⟨_,rfl⟩;have HYes:=Lib.hid (fun (hc:∀i,i<n→repFits (rs.getD i ⟨0,[]⟩).ws=true)=>repsFit_yes (rs:=rs) (by rw[←hn];exact hc));have HNo:=Lib.hid (fun (i:Nat) (hi:i<n) (hc:repFits (rs.getD i ⟨0,[]⟩).ws=false)=>repsFit_no (rs:=rs) (by omega) hc);have hcf:=callFunc125;generalize repsFit rs=res at*;rw[←hn]at h4 h1;rw[show(Value.slice a rs.length cap)=.slice a n cap from by rw[hn]];have H4:=Lib.hid h4;have h7:n≤9223372036854775807:=by unfold maxLen at h2;omega
 clear hn h4 h3 HW;go_enter Tryz.func63,Tryz.ntmps63;go_wp2_with fail
 go_loopw[8] (fun i wr=>∃k:Nat,k≤n∧i=.int .i64 k∧(∀j,j<k→repFits (rs.getD j ⟨0,[]⟩).ws=true)∧Below w.heap.size w wr) (fun i _=>n - (intOf i).toNat)
 case atStart=>exact⟨0,Nat.zero_le _,rfl,fun j hj=>absurd hj (by omega),Below.refl _ _⟩
 case round=>
  obtain⟨k,hk,rfl,hc,hb⟩:=hrel;have HC:=Lib.hid hc;by_cases hkn:k<n
  ·obtain⟨b,off,us,rfl,hl,hcs⟩:=H4.out (by omega)
   obtain⟨q0,q1,q2⟩:=hcs k hkn;have p0:=(hb.cell (p:=⟨b,off+k*2,none⟩) hl).trans q0;have p1:=(hb.cell (p:=⟨b,off+k*2+1,none⟩) hl).trans q1;have HU:=Lib.hid (unfit_any (q2.below hb) ((rs.getD k ⟨0,[]⟩).val:Int));obtain⟨a2,c2,hv2,-⟩:=q2;rw[hv2]at p1 HU;generalize (rs.getD k ⟨0,[]⟩).ws.length=L at*;generalize ((rs.getD k ⟨0,[]⟩).val:Int)=A at*;obtain⟨qf,hqf⟩:∃qf,qf=repFits (rs.getD k ⟨0,[]⟩).ws:=⟨_,rfl⟩;rw[←hqf]at HU;have HQF:=Lib.hid hqf;have HBB:=Lib.hid hb;have hkl:(k:Int)<(n:Int):=by omega
   have hk0:(0:Int)≤(k:Int):=by omega
   have hw1:IntKind.i64.wrap ((k:Int)+1)=(k:Int)+1:=IntWalk.i64_in _ (by omega);clear hcs q0 q1 hv2 hb hc hqf;cases qf
   ·go_wp2_with fail
    refine HU.out.mono ?_;rintro e w1⟨rfl,hb2⟩;have HB2:=Lib.hid hb2;clear hb2;go_wp2_with fail;go_ret;exact⟨.inr ⟨HNo.out k hkn HQF.out.symm,k,by omega,rfl⟩,Bel.tr HBB.out HB2.out⟩
   ·go_wp2_with fail
    refine HU.out.mono ?_;rintro e w1⟨rfl,hb2⟩;have HB2:=Lib.hid hb2;clear hb2;go_wp2_with fail
    go_roundw
    case rel=>exact⟨k+1,by omega,by go_num,fun j hj=>by
     rcases Nat.lt_or_ge j k with h|h
     ·exact HC.out j h
     ·have e:j=k:=by omega
      subst e
      exact HQF.out.symm,Bel.tr HBB.out HB2.out⟩
    case measure=>simp[intOf];omega
  ·have hkn2:k=n:=by omega
   subst hkn2;have HBB:=Lib.hid hb;clear hb hc;go_wp2_with fail;go_ret;exact⟨.inl ⟨HYes.out HC.out,rfl⟩,HBB.out⟩
theorem containsrep_any {v:Value} {rs:List Rep} (h:RepsAt w v rs) :
 Calls Tryz.prog 24 #[v,.func (.func 25) #[] #[]] w fun e w'=>e=.returned (.bool (!repsFit rs))∧Below w.heap.size w w':=by
 have HI:=Lib.hid (indexrep_any h);obtain⟨a,cap,rfl,h1,h2,h3,h4⟩:=h;generalize rs.length=n at*;generalize repsFit rs=q at*;clear h4 h3;go_enter Tryz.func24,Tryz.ntmps24;go_wp2_with fail;refine HI.out.mono ?_;rintro e w1⟨⟨rfl,rfl⟩|⟨rfl,k,hk,rfl⟩,hb⟩
 ·have HB:=Lib.hid hb
  clear hb;go_wp2_with fail;go_ret;exact⟨rfl,HB.out⟩
 ·have HB:=Lib.hid hb
  have hk0:(0:Int)≤(k:Int):=by omega
  clear hb;go_wp2_with fail;go_ret;exact⟨rfl,HB.out⟩
end
def Out (F:Nat→Prop) (v:Value):Prop:=∀b off n c,v=.slice (some ⟨b,off,none⟩) n c→0<n→¬F b
theorem Fr.cell {w w':World} {F F':Nat→Prop} (h:Fr w w' F F') {p:Addr} (hl:p.block<w.heap.size) (hn:¬F p.block):w'.cell? p=w.cell? p:=by
 unfold World.cell?;rw[h.block p.block hl hn]
theorem Fr.notF {w w':World} {F F':Nat→Prop} (h:Fr w w' F F') {k:Nat} (hl:k<w.heap.size) (hn:¬F k):¬F' k:=fun e=>(h.foot k e).elim hn (fun e2=>by omega)
theorem Reads.fr {w w':World} {F F':Nat→Prop} {sz n:Nat} {v:Value} {cs:List Value} (h:Reads w sz v n cs) (hf:Fr w w' F F') (ho:Out F v):Reads w' sz v n cs∧Out F' v:=by
 obtain⟨a,cap,hv,hl,hn,hm,ha,hp⟩:=h;refine⟨⟨a,cap,hv,hl,hn,hm,ha,fun h0=>?_⟩,fun b off n' c e h0=>?_⟩
 ·obtain⟨b,off,e,hlt,hc⟩:=hp h0
  have hb:¬F b:=ho b off n cap (by rw[hv,e]) h0;exact⟨b,off,e,Nat.lt_of_lt_of_le hlt hf.size,fun j hj=>(hf.cell (p:=⟨b,off+j,none⟩) hlt hb).trans (hc j hj)⟩
 ·have hb:=ho b off n' c e h0
  rw[hv]at e;cases e;obtain⟨b',off',e',hlt,-⟩:=hp h0;cases e';exact hf.notF hlt hb
theorem Bytes.fr {w w':World} {F F':Nat→Prop} {v:Value} {l:List Nat} (h:Bytes w v l) (hf:Fr w w' F F') (ho:Out F v):Bytes w' v l∧Out F' v:=
 ⟨⟨(h.1.fr hf ho).1,h.2⟩,(h.1.fr hf ho).2⟩
theorem Out.sub {F G:Nat→Prop} {v:Value} (h:Out F v) (hs:∀k,G k→F k):Out G v:=fun b off n c e h0 hg=>h b off n c e h0 (hs _ hg)
def WsS (w:World) (F:Nat→Prop) (v:Value) (ws:List (Nat×List Nat)):Prop:=
 ∃a cap,v=.slice a ws.length cap∧ws.length≤cap∧cap≤maxLen∧(∀x∈ws,x.1<4294967296)∧
  (0<ws.length→∃b off,∃us:Nat→Value,a=some ⟨b,off,none⟩∧b<w.heap.size∧¬F b∧∀i,i<ws.length→w.cell? ⟨b,off+i*2,none⟩=some (.int .u32 (ws.getD i (0,[])).1)∧w.cell? ⟨b,off+i*2+1,none⟩=some (us i)∧Bytes w (us i) (ws.getD i (0,[])).2∧Out F (us i))
section
variable {w w' w0:World} {F F' G:Nat→Prop} {v:Value} {ws:List (Nat×List Nat)} {rs:List Rep}
theorem WsS.at_ (h:WsS w F v ws):WsAt w v ws:=by
 obtain⟨a,cap,hv,h1,h2,h3,h4⟩:=h;refine⟨a,cap,hv,h1,h2,h3,fun h0=>?_⟩;obtain⟨b,off,us,ha,hl,hb,hc⟩:=h4 h0;exact⟨b,off,us,ha,hl,fun i hi=>⟨(hc i hi).1,(hc i hi).2.1,(hc i hi).2.2.1⟩⟩
theorem WsS.fr (h:WsS w F v ws) (hf:Fr w w' F F'):WsS w' F' v ws:=by
 obtain⟨a,cap,hv,h1,h2,h3,h4⟩:=h;refine⟨a,cap,hv,h1,h2,h3,fun h0=>?_⟩;obtain⟨b,off,us,ha,hl,hb,hc⟩:=h4 h0;refine⟨b,off,us,ha,Nat.lt_of_lt_of_le hl hf.size,hf.notF hl hb,fun i hi=>?_⟩;obtain⟨c1,c2,c3,c4⟩:=hc i hi;exact⟨(hf.cell (p:=⟨b,off+i*2,none⟩) hl hb).trans c1,(hf.cell (p:=⟨b,off+i*2+1,none⟩) hl hb).trans c2,(c3.fr hf c4).1,(c3.fr hf c4).2⟩
theorem WsS.sub (h:WsS w F v ws) (hs:∀k,G k→F k):WsS w G v ws:=by
 obtain⟨a,cap,hv,h1,h2,h3,h4⟩:=h;refine⟨a,cap,hv,h1,h2,h3,fun h0=>?_⟩;obtain⟨b,off,us,ha,hl,hb,hc⟩:=h4 h0;exact⟨b,off,us,ha,hl,fun e=>hb (hs b e),fun i hi=>⟨(hc i hi).1,(hc i hi).2.1,(hc i hi).2.2.1,(hc i hi).2.2.2.sub hs⟩⟩
def RepsS (w:World) (F:Nat→Prop) (v:Value) (rs:List Rep):Prop:=
 ∃a cap,v=.slice a rs.length cap∧rs.length≤cap∧cap≤maxLen∧(∀x∈rs,x.val<4294967296)∧
  (0<rs.length→∃b off,∃us:Nat→Value,a=some ⟨b,off,none⟩∧b<w.heap.size∧¬F b∧∀i,i<rs.length→w.cell? ⟨b,off+i*2,none⟩=some (.int .u32 (rs.getD i ⟨0,[]⟩).val)∧w.cell? ⟨b,off+i*2+1,none⟩=some (us i)∧WsS w F (us i) (rs.getD i ⟨0,[]⟩).ws)
theorem RepsS.at_ (h:RepsS w F v rs):RepsAt w v rs:=by
 obtain⟨a,cap,hv,h1,h2,h3,h4⟩:=h;refine⟨a,cap,hv,h1,h2,h3,fun h0=>?_⟩;obtain⟨b,off,us,ha,hl,hb,hc⟩:=h4 h0;exact⟨b,off,us,ha,hl,fun i hi=>⟨(hc i hi).1,(hc i hi).2.1,(hc i hi).2.2.at_⟩⟩
theorem RepsS.fr (h:RepsS w F v rs) (hf:Fr w w' F F'):RepsS w' F' v rs:=by
 obtain⟨a,cap,hv,h1,h2,h3,h4⟩:=h;refine⟨a,cap,hv,h1,h2,h3,fun h0=>?_⟩;obtain⟨b,off,us,ha,hl,hb,hc⟩:=h4 h0;refine⟨b,off,us,ha,Nat.lt_of_lt_of_le hl hf.size,hf.notF hl hb,fun i hi=>?_⟩;obtain⟨c1,c2,c3⟩:=hc i hi;exact⟨(hf.cell (p:=⟨b,off+i*2,none⟩) hl hb).trans c1,(hf.cell (p:=⟨b,off+i*2+1,none⟩) hl hb).trans c2,c3.fr hf⟩
theorem RepsS.sub (h:RepsS w F v rs) (hs:∀k,G k→F k):RepsS w G v rs:=by
 obtain⟨a,cap,hv,h1,h2,h3,h4⟩:=h;refine⟨a,cap,hv,h1,h2,h3,fun h0=>?_⟩;obtain⟨b,off,us,ha,hl,hb,hc⟩:=h4 h0;exact⟨b,off,us,ha,hl,fun e=>hb (hs b e),fun i hi=>⟨(hc i hi).1,(hc i hi).2.1,(hc i hi).2.2.sub hs⟩⟩
theorem RepsS.nil (w:World) (F:Nat→Prop):RepsS w F (.slice none 0 0) []:=⟨none,0,rfl,Nat.le_refl _,Nat.zero_le _,by simp,by simp⟩
theorem RepsS.vals (h:RepsS w F v rs):∀r∈rs,r.val<4294967296:=by
 obtain⟨_,_,_,_,_,h,_⟩:=h;exact h
theorem Out.home (hh:Home w0 w F) {sz n:Nat} {cs:List Value} (h:Reads w0 sz v n cs):Out F v:=fun b off n' c e h0 hF=>by
 obtain⟨a,cap,hv,hl,hn,hm,ha,hp⟩:=h;rw[hv]at e;cases e;obtain⟨b',off',e',hlt,-⟩:=hp h0;cases e';have:=hh.f _ hF;omega
theorem WsS.home (hh:Home w0 w F) (h:WsAt w0 v ws):WsS w F v ws:=by
 obtain⟨a,cap,hv,h1,h2,h3,h4⟩:=h;refine⟨a,cap,hv,h1,h2,h3,fun h0=>?_⟩;obtain⟨b,off,us,ha,hl,hc⟩:=h4 h0;refine⟨b,off,us,ha,Nat.lt_of_lt_of_le hl hh.b.size,fun e=>by have:=hh.f b e;omega,fun i hi=>?_⟩;obtain⟨c1,c2,c3⟩:=hc i hi;exact⟨(hh.b.cell (p:=⟨b,off+i*2,none⟩) hl).trans c1,(hh.b.cell (p:=⟨b,off+i*2+1,none⟩) hl).trans c2,c3.below hh.b,Out.home hh c3.1⟩
theorem RepsS.home (hh:Home w0 w F) (h:RepsAt w0 v rs):RepsS w F v rs:=by
 obtain⟨a,cap,hv,h1,h2,h3,h4⟩:=h;refine⟨a,cap,hv,h1,h2,h3,fun h0=>?_⟩;obtain⟨b,off,us,ha,hl,hc⟩:=h4 h0;refine⟨b,off,us,ha,Nat.lt_of_lt_of_le hl hh.b.size,fun e=>by have:=hh.f b e;omega,fun i hi=>?_⟩;obtain⟨c1,c2,c3⟩:=hc i hi;exact⟨(hh.b.cell (p:=⟨b,off+i*2,none⟩) hl).trans c1,(hh.b.cell (p:=⟨b,off+i*2+1,none⟩) hl).trans c2,WsS.home hh c3⟩
theorem RepsS.tail {a:Addr} {n cap:Nat} {r:Rep} (h:RepsS w F (.slice (some a) n cap) (r::rs)) :
 ∃rb ro us0,a=⟨rb,ro,none⟩∧n=rs.length+1∧n≤cap∧cap≤maxLen∧(rb<w.heap.size∧¬F rb)∧r.val<4294967296∧w.cell? ⟨rb,ro,none⟩=some (.int .u32 r.val)∧w.cell? ⟨rb,ro+1,none⟩=some us0∧WsS w F us0 r.ws∧
  RepsS w F (.slice (some ⟨rb,ro+2,none⟩) rs.length (cap - 1)) rs:=by
 obtain⟨a',cap',hv,h1,h2,h3,h4⟩:=h;cases hv;obtain⟨rb,ro,us,ha,hl,hb,hc⟩:=h4 (by simp);have h00:=hc 0 (by simp);refine⟨rb,ro,us 0,by injection ha,by simp,h1,h2,⟨hl,hb⟩,h3 r (by simp),by simpa using h00.1,by simpa using h00.2.1,by simpa using h00.2.2,?_⟩;simp only[List.length_cons]at h1;refine⟨some ⟨rb,ro+2,none⟩,cap - 1,rfl,by omega,by omega,fun x hx=>h3 x (by simp[hx]),fun h0=>⟨rb,ro+2,fun i=>us (i+1),rfl,hl,hb,fun i hi=>?_⟩⟩;have:=hc (i+1) (by simpa using hi);have e1:ro+(i+1)*2=ro+2+i*2:=by omega
 rw[e1]at this
 simpa using this
end
theorem applyN_snoc (d:List Nat) (l:List (Nat×List Nat)) (x:Nat×List Nat):applyN d (l++[x])=writeN (applyN d l) x.1 x.2:=by
 unfold applyN;rw[List.foldl_append];rfl
theorem applyT_snoc (z:Nat) (l:List (Nat×List Nat)) (x:Nat×List Nat):applyT z (l++[x])=applyT z l++touN z x.1 x.2.length true:=by
 unfold applyT;rw[List.flatMap_append];simp
theorem take_snoc {α:Type} [Inhabited α] (l:List α) (k:Nat) (hk:k<l.length) (d:α):l.take (k+1)=l.take k++[l.getD k d]:=by
 rw[List.take_add_one,List.getElem?_eq_getElem hk,List.getD_eq_getElem?_getD,List.getElem?_eq_getElem hk];rfl
section
variable {w0 w:World} {p g c N:Nat} {vt:Value} {d:List Nat} {logs:Bool} {tou:List (Nat×Bool)} {v:Value} {gr:List (Nat×Int)}
def ApplyPost (p g c N:Nat) (vt:Value) (d:List Nat) (logs:Bool) (tou:List (Nat×Bool)) (ws:List (Nat×List Nat)) (w:World) (e:Ending) (w':World):Prop:=
 e=.returned (.int .i64 0)∧∃vt',MemAt w' p g c N vt' (applyN d ws) logs (touL logs tou (applyT N ws))∧Fr w w' (memF p g vt) (memF p g vt')
theorem apply_any' (hg:GateAt w v gr) (hm:MemAt w p g c N vt d logs tou) {vw:Value} {ws:List (Nat×List Nat)} (hw:WsS w (memF p g vt) vw ws) (hf:repFits ws=true) (x:Int) :
 Calls Tryz.prog 152 #[v,.pointer (some ⟨p,0,none⟩),.agg #[.int .u32 x,vw]] w (ApplyPost p g c N vt d logs tou ws w):=by
 have hww:=hw.at_;have HG:=Lib.hid (fun W (hW:Below w.heap.size w W)=>gmade_any (hg.below hW));obtain⟨k,hk8,hk16,hNk⟩:=hm.k;have HBi:=Lib.hid (fun W (hW:Below w.heap.size w W)=>bits_mem (hm.below hW) hk8 hk16 hNk);have HFi:=Lib.hid (fun W (hW:Below w.heap.size w W)=>rfits_any (hww.below hW) x);rw[hf]at HFi;have HM0:=Lib.hid (fun W (hW:Below w.heap.size w W)=>hm.below hW);have hk0:((k:Int)==0)=false:=by simp;omega
 obtain⟨a,cap,rfl,h1,h2,h3,h4⟩:=hw
 have hl16:ws.length≤16∧∀i,i<ws.length→(ws.getD i (0,[])).2.length≤256:=by
  unfold repFits at hf;rw[Bool.and_eq_true,List.all_eq_true]at hf;refine⟨by simpa using hf.1,fun i hi=>?_⟩;have:=hf.2 (ws.getD i (0,[])) (by rw[List.getD_eq_getElem?_getD,List.getElem?_eq_getElem hi];exact List.getElem_mem hi)
  simpa using this
 have h3i:∀i,i<ws.length→(ws.getD i (0,[])).1<4294967296:=fun i hi=>h3 _ (by rw[List.getD_eq_getElem?_getD,List.getElem?_eq_getElem hi];exact List.getElem_mem hi);obtain⟨n,hn⟩:∃n,n=ws.length:=⟨_,rfl⟩;rw[show(Value.slice a ws.length cap)=.slice a n cap from by rw[hn]]at*;have HN:=Lib.hid hn;rw[←hn]at h1 h4 hl16 h3i;have H4:=Lib.hid h4;have H3:=Lib.hid h3i;have H16:=Lib.hid hl16;obtain⟨W1,hW1⟩:∃W1,W1=w.alloc (.cells #[.int .u32 x,.slice a n cap] 69):=⟨_,rfl⟩;have hb1:Below w.heap.size w W1:=by rw[hW1];exact Bel.new _ _
 have hh1:W1.heap[w.heap.size]?=some (.cells #[.int .u32 x,.slice a n cap] 69 (0,0)):=by rw[hW1];exact heap_alloc_new _ _
 have HB1:=Lib.hid hb1;have HH1:=Lib.hid hh1;have hl1:w.heap.size<W1.heap.size:=(Array.getElem?_eq_some_iff.1 hh1).1;clear hg hm hf hww h3 h4 hl16 h3i hn hb1 hNk;go_enter Tryz.func152,Tryz.ntmps152;go_wp2_with fail;rw[←hW1];clear hW1;refine(HG.out W1 HB1.out).mono ?_;rintro e w2⟨rfl,rfl⟩;go_wp2_with fail;refine(HBi.out W1 HB1.out).mono ?_;rintro e w2⟨rfl,hb2⟩;have k2:=(hb2.block _ hl1).trans HH1.out;obtain⟨q0,q1⟩:=cells162 k2;have hB2:=Bel.tr HB1.out hb2;have HFi2:=Lib.hid (HFi.out w2 hB2);have HB2:=Lib.hid hB2;have HK2:=Lib.hid k2;have hl2:w.heap.size<w2.heap.size:=Nat.lt_of_lt_of_le hl1 hb2.size;clear hb2 hB2 k2 hh1;go_wp2_with fail;refine HFi2.out.mono ?_;rintro e w3⟨rfl,hb3⟩;obtain⟨r0,r1⟩:=cells162 ((hb3.block _ hl2).trans HK2.out);have HB3:=Lib.hid (Bel.tr HB2.out hb3);clear hb3 q0 q1;go_wp2_with fail
 go_loopw[24] (fun i wr=>∃(j:Nat) (vt':Value),j≤n∧i=.int .i64 j∧MemAt wr p g c N vt' (applyN d (ws.take j)) logs (touL logs tou (applyT N (ws.take j)))∧Fr w wr (memF p g vt) (memF p g vt')) (fun i _=>n - (intOf i).toNat)
 case atStart=>
  refine⟨0,vt,Nat.zero_le _,rfl,?_,Fr.of HB3.out _⟩;have:=HM0.out w3 HB3.out;rw[List.take_zero,show applyT N []=[]from rfl,touL_nil logs this.tl];exact this
 case round=>
  obtain⟨j,vt',hj,rfl,hmem,hfr⟩:=hrel;by_cases hjn:j<n
  ·obtain⟨b,off,us,rfl,hl,hnb,hcs⟩:=H4.out (by omega)
   obtain⟨q0,q1,q2a,q2b⟩:=hcs j hjn;have p0:=(hfr.cell (p:=⟨b,off+j*2,none⟩) hl hnb).trans q0;have p1:=(hfr.cell (p:=⟨b,off+j*2+1,none⟩) hl hnb).trans q1;obtain⟨q2,q2o⟩:=q2a.fr hfr q2b;clear q2a q2b;obtain⟨y,hy⟩:∃y,y=ws.getD j (0,[]):=⟨_,rfl⟩;have hy3:=H3.out j hjn;have hy6:=H16.out.2 j hjn;rw[←hy]at p0 q2 hy3 hy6;have hbw:=Bel.new wr (.cells #[.int .u32 y.1,us j] 146)
   have HWr:=Lib.hid (write_mem (hmem.below hbw) hy3 (q2.below hbw) (by omega) (fun h0 x hx=>by
    obtain⟨⟨va,vc,hv,-,-,-,-,hvp⟩,-⟩:=q2;obtain⟨bb,oo,e,hbb,-⟩:=hvp h0;have e2:x=bb:=(by rw[hv,e]at hx;simpa[Value.ownBlock]using hx.symm);subst e2;have hno:=q2o x oo _ vc (by rw[hv,e]) h0
    exact⟨fun e=>hno (.inl e),fun e=>hno (.inr (.inl e)),fun e=>hno (.inr (.inr e))⟩))
   obtain⟨va,vc,hv,-⟩:=q2.1;rw[hv]at p1 HWr;obtain⟨L,hL⟩:∃L,L=y.2.length:=⟨_,rfl⟩;rw[←hL]at p1;rw[show(Value.slice va y.2.length vc)=.slice va L vc from by rw[hL]]at HWr;have HF:=Lib.hid hfr;have HY:=Lib.hid hy;have hn16:=H16.out.1;have hkl:(j:Int)<(n:Int):=by omega
   have hk0:(0:Int)≤(j:Int):=by omega
   have hw1:IntKind.i64.wrap ((j:Int)+1)=(j:Int)+1:=IntWalk.i64_in _ (by omega);have HLn:=Lib.hid HN.out;clear hcs q0 q1 q2 q2o hv hy hL hmem hfr hbw hy6;go_wp2_with fail;refine HWr.out.mono ?_;rintro e w9⟨rfl,vt9,m9,f9⟩;have HM9:=Lib.hid m9;have HF9:=Lib.hid f9;clear m9 f9;go_wp2_with fail
   go_roundw
   case rel=>
    refine⟨j+1,vt9,by omega,by go_num,?_,(HF.out.trans (Fr.of (Bel.new _ _) _)).trans HF9.out⟩;rw[take_snoc ws j (by have:=HN.out;omega) (0,[]),←HY.out,applyN_snoc,applyT_snoc,←touL_touL];exact HM9.out
   case measure=>simp[intOf];omega
  ·have hjn2:j=n:=by omega
   subst hjn2;have HM:=Lib.hid hmem;have HF:=Lib.hid hfr;clear hmem hfr;go_wp2_with fail;go_ret;have e9:ws.take j=ws:=by rw[List.take_of_length_le (by have:=HN.out;omega)]
   rw[e9]at HM;exact⟨rfl,vt',HM.out,HF.out⟩
end
section
variable {P:Program}
def outs (P:Program) (o:Oper) (ρ:Operand→Value) (W:World) (R:Value→World→Prop):Prop:=
 match (execOp ρ o).run P W with
 | .ok (.value v) W'=>R v W'
 | .ok .skip W'=>R undef W'
 | .ok (.enter f args) W'=>Calls P f args W' fun e W''=>∃v,e=.returned v∧R v W''
 | _=>False
theorem outs_wp {o:Oper} {a:Act} {W:World} {R:Value→World→Prop} {K:Act→World→Prop} {Q:Exit→Act→World→Prop} (h:outs P o a.eval W R)
 (hK:∀v W',R v W'→K (a.put o.dst v) W'):o.wp P a W K Q:=by
 unfold outs at h;unfold Oper.wp;generalize (execOp a.eval o).run P W=r at*;cases r with
 | ok n w'=>
  cases n with
  | value v=>exact hK _ _ h
  | skip=>exact hK _ _ h
  | enter f args=>
   refine Calls.mono h ?_;rintro e w''⟨v,rfl,hr⟩;exact hK _ _ hr
  | _=>exact False.elim h
 | halt x w'=>exact False.elim h
def freeB (ops:Array Oper):Bool:=(List.range ops.size).all fun i=>match ops[i]? with
 | none=>true
 | some oi=>oi.guard.isNone&&((match oi.op with|.select _ _=>false|_=>true)&&(oi.after.all (fun e=>!Region.binds .any e||decide (e.on<i))&&
  (List.range ops.size).all fun j=>match ops[j]? with
   | none=>true
   | some oj=>match oj.dst with
    | none=>true
    | some t=>(!(oi.looksAt ops).contains t||oi.after.any (fun e=>Region.binds .any e&&e.on==j))&&(i==j||oi.dst !=some t)))
structure FreeOk (ops:Array Oper):Prop where
 g:∀(i:Nat) (oi:Oper),ops[i]?=some oi→oi.guard=none
 s:∀(i:Nat) (oi:Oper),ops[i]?=some oi→∀cs b,oi.op≠.select cs b
 b:∀(i:Nat) (oi:Oper),ops[i]?=some oi→∀e∈oi.after,Region.binds .any e=true→e.on<i
 d:∀(i:Nat) (oi:Oper) (j:Nat) (oj:Oper) (t:Tmp),ops[i]?=some oi→ops[j]?=some oj→oj.dst=some t→t∈oi.looksAt ops→∃e∈oi.after,Region.binds .any e=true∧e.on=j
 u:∀(i:Nat) (oi:Oper) (j:Nat) (oj:Oper) (t:Tmp),ops[i]?=some oi→ops[j]?=some oj→oi.dst=some t→oj.dst=some t→i=j
theorem freeOk {ops:Array Oper} (h:freeB ops=true):FreeOk ops:=by
 have key:∀(i:Nat) (oi:Oper),ops[i]?=some oi→_:=fun i oi hi=>by
  have hlt:i<ops.size:=(Array.getElem?_eq_some_iff.1 hi).1;have h1:=List.all_eq_true.1 h i (List.mem_range.2 hlt);rw[hi]at h1;exact h1
 have k2:∀(i:Nat) (oi:Oper) (j:Nat) (oj:Oper) (t:Tmp),ops[i]?=some oi→ops[j]?=some oj→oj.dst=some t→
  ((!(oi.looksAt ops).contains t||oi.after.any (fun e=>Region.binds .any e&&e.on==j))&&(i==j||oi.dst !=some t))=true:=fun i oi j oj t hi hj ht=>by
  have h1:=key i oi hi;simp only[Bool.and_eq_true]at h1;have hlt:j<ops.size:=(Array.getElem?_eq_some_iff.1 hj).1;have h2:=List.all_eq_true.1 h1.2.2.2 j (List.mem_range.2 hlt);rw[hj]at h2;simp only[ht]at h2;exact h2
 refine⟨fun i oi hi=>?_,fun i oi hi cs b e=>?_,fun i oi hi e he hb=>?_,fun i oi j oj t hi hj ht hl=>?_,fun i oi j oj t hi hj h1 h2=>?_⟩
 ·have h1:=key i oi hi
  simp only[Bool.and_eq_true]at h1
  simpa using h1.1
 ·have h1:=key i oi hi
  simp only[Bool.and_eq_true]at h1;have h2:=h1.2.1;rw[e]at h2;cases h2
 ·have h1:=key i oi hi
  simp only[Bool.and_eq_true]at h1;have h2:=Array.all_eq_true_iff_forall_mem.1 h1.2.2.1 e he
  simpa[hb]using h2
 ·have h1:=k2 i oi j oj t hi hj ht
  rw[Bool.and_eq_true]at h1;have h2:=h1.1;rw[show(oi.looksAt ops).contains t=true from by simpa using hl]at h2;simp only[Bool.not_true,Bool.false_or,Array.any_eq_true',Bool.and_eq_true,beq_iff_eq]at h2;obtain⟨e,he,hb,ho⟩:=h2;exact⟨e,he,hb,ho⟩
 ·have h3:=k2 i oi j oj t hi hj h2
  rw[Bool.and_eq_true]at h3;have h4:=h3.2;rw[h1]at h4
  simpa using h4
def putAll:Act→List Oper→Nat→(Nat→Value)→Act
 | a,[],_,_=>a
 | a,o::l,k,V=>putAll (a.put o.dst (V k)) l (k+1) V
theorem put_size (a:Act) (d:Option Tmp) (v:Value):(a.put d v).tmps.size=a.tmps.size:=by cases d<;>simp[Act.put]
theorem put_defers (a:Act) (d:Option Tmp) (v:Value):(a.put d v).defers=a.defers:=by cases d<;>rfl
theorem put_get_ne (a:Act) {d:Option Tmp} (v:Value) {t:Tmp} (h:d≠some t):(a.put d v).tmps[t]?=a.tmps[t]?:=by
 cases d with
 | none=>rfl
 | some e=>exact Array.getElem?_setIfInBounds_ne (fun h'=>h (by rw[h']))
theorem put_get (a:Act) (v:Value) {t:Tmp} (h:t<a.tmps.size):(a.put (some t) v).tmps[t]?=some v:=by simp[Act.put,h]
theorem putAll_defers (V:Nat→Value):∀(l:List Oper) (a:Act) (k:Nat),(putAll a l k V).defers=a.defers
 | [],a,k=>rfl
 | o::l,a,k=>by rw[putAll,putAll_defers V l,put_defers]
theorem putAll_out (V:Nat→Value) {t:Tmp}:∀(l:List Oper) (a:Act) (k:Nat),(∀o∈l,o.dst≠some t)→(putAll a l k V).tmps[t]?=a.tmps[t]?
 | [],a,k,h=>rfl
 | o::l,a,k,h=>by rw[putAll,putAll_out V l _ _ (fun o' ho=>h o' (List.mem_cons_of_mem _ ho)),put_get_ne _ _ (h o (List.mem_cons_self ..))]
theorem putAll_at (V:Nat→Value) {t:Tmp} {o:Oper} (ht:o.dst=some t):∀(l:List Oper) (a:Act) (k j:Nat),t<a.tmps.size→l[j]?=some o→(∀j' o',l[j']?=some o'→o'.dst=some t→j'=j)→
 (putAll a l k V).tmps[t]?=some (V (k+j))
 | [],a,k,j,hs,hj,hu=>by simp at hj
 | o'::l,a,k,0,hs,hj,hu=>by
  obtain rfl:o'=o:=by simpa using hj
  rw[putAll,putAll_out V l _ _ (fun o2 ho e=>by
   obtain⟨j2,hj2,rfl⟩:=List.getElem_of_mem ho;have:=hu (j2+1) l[j2] (by simp[hj2]) e
   omega),ht,put_get _ _ hs]
  rfl
 | o'::l,a,k,j+1,hs,hj,hu=>by
  rw[putAll,putAll_at V ht l _ (k+1) j (by rw[put_size];exact hs) (by simpa using hj) (fun j' o2 h1 h2=>by
   have:=hu (j'+1) o2 (by simpa using h1) h2
   omega),show k+1+j=k+(j+1)from by omega]
theorem lget_ne {l:Array Bool} {i j:Nat} (b d:Bool) (h:i≠j):(l.setIfInBounds i b).getD j d=l.getD j d:=by
 simp[Array.getD_eq_getD_getElem?,Array.getElem?_setIfInBounds_ne h]
theorem lget_eq {l:Array Bool} {i:Nat} (b d:Bool) (h:i<l.size):(l.setIfInBounds i b).getD i d=b:=by
 simp[Array.getD_eq_getD_getElem?,h]
theorem lget_any {l:Array Bool} {i:Nat} (d d':Bool) (h:i<l.size):l.getD i d=l.getD i d':=by
 simp[Array.getD_eq_getD_getElem?,h]
theorem getD_replicate_in {n j:Nat} {d:Bool} (h:j<n):(Array.replicate n false).getD j d=false:=by
 simp[Array.getD_eq_getD_getElem?,h]
def unl (n:Nat) (listed:Array Bool):Nat:=((List.range n).filter fun i=>!listed.getD i true).length
theorem unl_lt {n i:Nat} {listed:Array Bool} (hi:i<n) (hl:listed.size=n) (h:listed.getD i true=false):unl n (listed.setIfInBounds i true)<unl n listed:=by
 unfold unl
 have e:(List.range n).filter (fun j=>!(listed.setIfInBounds i true).getD j true)=((List.range n).filter fun j=>!listed.getD j true).filter (fun j=>decide (j≠i)):=by
  rw[List.filter_filter];refine List.filter_congr fun j hj=>?_;by_cases hji:j=i
  ·subst hji
   rw[lget_eq true true (by omega)];simp
  ·rw[lget_ne true true (fun h'=>hji h'.symm)]
   simp[hji]
 rw[e];exact List.length_filter_lt_length_iff_exists.2 ⟨i,List.mem_filter.2 ⟨List.mem_range.2 hi,by rw[h];rfl⟩,by simp⟩
theorem all_listed {ops:Array Oper} (hf:FreeOk ops) {listed:Array Bool} (hl:listed.size=ops.size) (h:Region.ready .any ops listed=[]):∀i,i<ops.size→listed.getD i true=true:=by
 intro i
 induction i using Nat.strongRecOn with
 | ind i ih=>
  intro hi;by_cases hg:listed.getD i true=true
  ·exact hg
  ·exfalso
   have hm:i∈Region.ready .any ops listed:=mem_ready.2 ⟨by simpa using hg,ops[i],Array.getElem?_eq_getElem hi,fun e he hb=>by
    have h1:=hf.b i ops[i] (Array.getElem?_eq_getElem hi) e he hb;have h2:=ih e.on h1 (by omega);rw[lget_any false true (by omega)]
    exact h2⟩
   rw[h]at hm;cases hm
def noW (ops:Array Oper) (t:Tmp):Bool:=ops.toList.all fun o=>o.dst !=some t
def isW (ops:Array Oper) (j:Nat) (t:Tmp):Bool:=match ops[j]? with|some o=>o.dst==some t|none=>false
def AllOb (f:Nat→Oper→Prop):List Oper→Nat→Prop
 | [],_=>True
 | o::l,k=>f k o∧AllOb f l (k+1)
theorem allOb_get {f:Nat→Oper→Prop}:∀(l:List Oper) (k:Nat),AllOb f l k→∀(i:Nat) (o:Oper),l[i]?=some o→f (k+i) o
 | [],k,h,i,o,hi=>by simp at hi
 | o'::l,k,h,0,o,hi=>by
  obtain rfl:o'=o:=by simpa using hi
  exact h.1
 | o'::l,k,h,i+1,o,hi=>by
  have:=allOb_get l (k+1) h.2 i o (by simpa using hi)
  rwa [show k+1+i=k+(i+1)from by omega]at this
theorem outs_val {o:Oper} {ρ:Operand→Value} {W:World} {R:Value→World→Prop} (s:Sem Value) (he:execOp ρ o=(do pure (Next.value (←s)))) {v:Value} {W':World} (hr:s.run P W=.ok v W') (h:R v W'):outs P o ρ W R:=by
 unfold outs;rw[he,Sem.run_bind,hr];exact h
theorem outs_run {o:Oper} {ρ:Operand→Value} {W:World} {R:Value→World→Prop} {v:Value} {W':World} (he:(execOp ρ o).run P W=.ok (.value v) W') (h:R v W'):outs P o ρ W R:=by
 unfold outs;rw[he];exact h
theorem outs_call {o:Oper} {ρ:Operand→Value} {W:World} {R:Value→World→Prop} {f:FuncId} {args:Array Value} (he:(execOp ρ o).run P W=.ok (.enter f args) W) (h:Calls P f args W fun e W'=>∃v,e=.returned v∧R v W') :
 outs P o ρ W R:=by
 unfold outs;rw[he];exact h
end
section
variable {P:Program}
def dstV (f:Operand→Value) (o:Oper):Value:=match o.dst with|some t=>f (.tmp t)|none=>undef
def keepV (o:Oper) (v:Value):Value:=match o.dst with|some _=>v|none=>undef
structure FInvS (ops:Array Oper) (a:Act) (R0:World→Prop) (Ψ:Nat→Value→World→Prop) (listed:Array Bool) (a':Act) (W:World):Prop where
 lz:listed.size=ops.size
 sz:a'.tmps.size=a.tmps.size
 df:a'.defers=a.defers
 out:∀(t:Tmp),(∀(j:Nat) (oj:Oper),ops[j]?=some oj→oj.dst=some t→listed.getD j true=false)→a'.tmps[t]?=a.tmps[t]?
 ps:∀(j:Nat) (oj:Oper),ops[j]?=some oj→listed.getD j true=true→Ψ j (dstV a'.eval oj) W
 r:R0 W
theorem FInvS.done {ops:Array Oper} {a:Act} {R0:World→Prop} {Ψ:Nat→Value→World→Prop} {listed:Array Bool} {a':Act} {W:World} (hf:FreeOk ops)
 (hsz:∀(i:Nat) (oi:Oper) (t:Tmp),ops[i]?=some oi→oi.dst=some t→t<a.tmps.size) (h:FInvS ops a R0 Ψ listed a' W) (hall:∀i,i<ops.size→listed.getD i true=true) :
 ∃V:Nat→Value,(∀(i:Nat) (oi:Oper),ops[i]?=some oi→Ψ i (V i) W)∧a'=putAll a ops.toList 0 V:=by
 refine⟨fun i=>match ops[i]? with|some oi=>(match oi.dst with|some t=>a'.eval (.tmp t)|none=>undef)|none=>undef,fun i oi hi=>?_,?_⟩
 ·have:=h.ps i oi hi (hall i (Array.getElem?_eq_some_iff.1 hi).1)
  simp only[hi];exact this
 ·obtain⟨T',D'⟩:=a'
  have hd:=putAll_defers (fun i=>match ops[i]? with|some oi=>(match oi.dst with|some t=>(⟨T',D'⟩:Act).eval (.tmp t)|none=>undef)|none=>undef) ops.toList a 0
  have key:∀(t:Nat),T'[t]?=(putAll a ops.toList 0 (fun i=>match ops[i]? with|some oi=>(match oi.dst with|some t=>(⟨T',D'⟩:Act).eval (.tmp t)|none=>undef)|none=>undef)).tmps[t]?:=by
   intro t;by_cases hw:∃(i:Nat) (oi:Oper),ops[i]?=some oi∧oi.dst=some t
   ·obtain⟨i,oi,hi,ht⟩:=hw
    have hlt:=hsz i oi t hi ht;rw[putAll_at _ ht ops.toList a 0 i hlt (by simpa using hi) (fun j' o' h1 h2=>hf.u j' o' i oi t (by simpa using h1) hi h2 ht),Nat.zero_add];simp only[hi,ht];have hlt':t<T'.size:=Nat.lt_of_lt_of_eq hlt (show T'.size=a.tmps.size from h.sz).symm;rw[Array.getElem?_eq_getElem hlt'];simp[Act.eval,Array.getD_eq_getD_getElem?,hlt']
   ·have hn:∀(j:Nat) (oj:Oper),ops[j]?=some oj→oj.dst≠some t:=fun j oj hj e=>hw ⟨j,oj,hj,e⟩
    rw[putAll_out _ ops.toList a 0 (fun o ho e=>by
     obtain⟨j,hj,rfl⟩:=List.getElem_of_mem ho
     exact hn j _ (by first|(simp;done)|(simp at hj⊢;exact⟨hj,rfl⟩)) e)]
    exact h.out t (fun j oj hj e=>absurd e (hn j oj hj))
  generalize putAll a ops.toList 0 _=b at*;obtain⟨T,D⟩:=b;have e1:T'=T:=Array.ext_getElem? key;have e2:D'=D:=h.df.trans hd.symm;rw[e1,e2]
theorem wpAny_freeS {ops:Array Oper} (hf:FreeOk ops) {Q:Exit→Act→World→Prop} {a:Act} (hsz:∀(i:Nat) (oi:Oper) (t:Tmp),ops[i]?=some oi→oi.dst=some t→t<a.tmps.size)
 (R0:World→Prop) (Rel:World→World→Prop) (Ψ:Nat→Value→World→Prop) (hst:∀i v W W',Rel W W'→Ψ i v W→Ψ i v W')
 (hob:∀(i:Nat) (oi:Oper),ops[i]?=some oi→∀(ρ:Operand→Value) (W:World),R0 W→(∀v,ρ (.const v)=v)→(∀g,ρ (.global g)=.pointer (some ⟨g,0,none⟩))→(∀f,ρ (.func f)=.func (.func f) #[] #[])→
  (∀t,(∀(j:Nat) (oj:Oper),ops[j]?=some oj→oj.dst≠some t)→ρ (.tmp t)=a.eval (.tmp t))→(∀(j:Nat) (oj:Oper) (t:Tmp),ops[j]?=some oj→oj.dst=some t→t∈oi.looksAt ops→Ψ j (ρ (.tmp t)) W)→
  (∀(j:Nat) (oj:Oper),ops[j]?=some oj→(∃e∈oi.after,Region.binds .any e=true∧e.on=j)→Ψ j (dstV ρ oj) W)→
  outs P oi ρ W fun v W'=>R0 W'∧Rel W W'∧Ψ i (keepV oi v) W')
 (hfin:∀(V:Nat→Value) (W:World),R0 W→(∀(i:Nat) (oi:Oper),ops[i]?=some oi→Ψ i (V i) W)→Q .normal (putAll a ops.toList 0 V) W) :
 ∀(fuel:Nat) (listed:Array Bool) (a':Act) (W:World),FInvS ops a R0 Ψ listed a' W→unl ops.size listed≤fuel→wpAny P .any ops Q fuel listed a' W:=by
 have fin:∀(listed:Array Bool) (a':Act) (W:World),FInvS ops a R0 Ψ listed a' W→Region.ready .any ops listed=[]→Q .normal a' W:=fun listed a' W h hr=>by
  obtain⟨V,h1,h2⟩:=h.done hf hsz (all_listed hf h.lz hr);rw[h2];exact hfin V W h.r h1
 intro fuel
 induction fuel with
 | zero=>
  intro listed a' W h hu
  have hr:Region.ready .any ops listed=[]:=by
   have h0:(List.range ops.size).filter (fun i=>!listed.getD i true)=[]:=List.eq_nil_of_length_eq_zero (by unfold unl at hu;omega);refine List.eq_nil_iff_forall_not_mem.2 fun i hi=>?_;obtain⟨h1,oi,h2,-⟩:=mem_ready.1 hi;have:i∈(List.range ops.size).filter (fun i=>!listed.getD i true):=List.mem_filter.2 ⟨List.mem_range.2 (Array.getElem?_eq_some_iff.1 h2).1,by rw[h1];rfl⟩;rw[h0]at this;cases this
  exact⟨hr,fin listed a' W h hr⟩
 | succ fuel ih=>
  intro listed a' W h hu;refine⟨fin listed a' W h,fun i hi=>?_⟩;obtain⟨h1,oi,h2,h3⟩:=mem_ready.1 hi;have hlt:i<ops.size:=(Array.getElem?_eq_some_iff.1 h2).1;have hli:i<listed.size:=by have:=h.lz;omega
  have hlst:∀(j:Nat) (oj:Oper),ops[j]?=some oj→(∃e∈oi.after,Region.binds .any e=true∧e.on=j)→listed.getD j true=true:=fun j oj hj ⟨e,he,hb,ho⟩=>by
   have:=h3 e he hb;rw[ho]at this;rw[lget_any true false (by have:=h.lz;have:=(Array.getElem?_eq_some_iff.1 hj).1;omega)];exact this
  unfold wpOp;simp only[h2];rw[if_pos (show Region.wanted oi (yielded ops a'.tmps)=true from by simp[Region.wanted,hf.g i oi h2])];refine .inl (outs_wp (R:=fun v W'=>R0 W'∧Rel W W'∧Ψ i (keepV oi v) W') (hob i oi h2 a'.eval W h.r (fun _=>rfl) (fun _=>rfl) (fun _=>rfl) (fun t ht=>?_) (fun j oj t hj hd hl=>?_) (fun j oj hj he=>?_)) ?_)
  ·have:=h.out t (fun j oj hj e=>absurd e (ht j oj hj))
   simp[Act.eval,Array.getD_eq_getD_getElem?,this]
  ·have:=h.ps j oj hj (hlst j oj hj (hf.d i oi j oj t h2 hj hd hl))
   unfold dstV at this;rw[hd]at this;exact this
  ·exact h.ps j oj hj (hlst j oj hj he)
  ·rintro v W'⟨r1,r2,r3⟩
   refine ih _ _ _ ⟨by simpa using h.lz,by rw[put_size];exact h.sz,by rw[put_defers];exact h.df,fun t ht=>?_,fun j oj hj hl=>?_,r1⟩ ?_
   ·have hne:oi.dst≠some t:=fun e=>by
     have:=ht i oi h2 e;rw[lget_eq true true hli]at this;cases this
    rw[put_get_ne _ _ hne];refine h.out t fun j oj hj e=>?_;have h4:=ht j oj hj e;by_cases hji:i=j
    ·subst hji;exact h1
    ·rw[lget_ne true true hji]at h4;exact h4
   ·by_cases hji:i=j
    ·subst hji
     obtain rfl:oi=oj:=(by rw[h2]at hj;injection hj);unfold keepV at r3;unfold dstV;cases hd:oi.dst with
     | none=>rw[hd]at r3;exact r3
     | some t=>
      rw[hd]at r3;have hlt2:t<a'.tmps.size:=by rw[h.sz];exact hsz i oi t h2 hd
      have:((a'.put (some t) v).eval (.tmp t))=v:=by
       simp[Act.eval,Array.getD_eq_getD_getElem?,put_get a' v hlt2]
      simp only[this];exact r3
    ·rw[lget_ne true true hji]at hl
     have h5:=hst j _ W W' r2 (h.ps j oj hj hl)
     have e:dstV (a'.put oi.dst v).eval oj=dstV a'.eval oj:=by
      unfold dstV;cases hd:oj.dst with
      | none=>rfl
      | some t=>
       have hne:oi.dst≠some t:=fun e=>hji (hf.u i oi j oj t h2 hj e hd);simp[Act.eval,Array.getD_eq_getD_getElem?,put_get_ne a' v hne]
     rw[e];exact h5
   ·have:=unl_lt hlt h.lz h1
    omega
def szS (ops:Array Oper) (n:Nat):Bool:=ops.toList.all fun o=>match o.dst with|some t=>decide (t<n)|none=>true
def aftB (o:Oper) (j:Nat):Bool:=o.after.any fun e=>Region.binds .any e&&e.on==j
def ToldS (P:Program) (ops:Array Oper) (a:Act) (R0:World→Prop) (Rel:World→World→Prop) (Ψ:Nat→Value→World→Prop) (i:Nat) (oi:Oper):Prop:=
 ∀(ρ:Operand→Value) (W:World),R0 W→(∀v,ρ (.const v)=v)→(∀g,ρ (.global g)=.pointer (some ⟨g,0,none⟩))→(∀f,ρ (.func f)=.func (.func f) #[] #[])→
  (∀t,noW ops t=true→ρ (.tmp t)=a.eval (.tmp t))→(∀j t,isW ops j t=true→(oi.looksAt ops).contains t=true→Ψ j (ρ (.tmp t)) W)→
  (∀j,j<ops.size→aftB oi j=true→∃v,Ψ j v W)→
  outs P oi ρ W fun v W'=>R0 W'∧Rel W W'∧Ψ i (keepV oi v) W'
theorem wp_region_toldS {id:Nat} {Q:Exit→Act→World→Prop} {a:Act} {w:World} {l:List Oper} (hm:P.follows .mixedOrders=true) (hB:freeB l.toArray=true) (n:Nat) (hn:a.tmps.size=n) (hs:szS l.toArray n=true)
 (R0:World→Prop) (Rel:World→World→Prop) (Ψ:Nat→Value→World→Prop) (hst:∀i v W W',Rel W W'→Ψ i v W→Ψ i v W') (h0:R0 {w with drawn:=w.drawn+1})
 (hob:AllOb (ToldS P l.toArray a R0 Rel Ψ) l 0)
 (hfin:∀(V:Nat→Value) (W:World),R0 W→(∀i,i<l.length→Ψ i (V i) W)→Q .normal (putAll a l 0 V) W):(Code.region id l.toArray true).wp P Q a w:=by
 have hf:=freeOk hB
 have hsz:∀(i:Nat) (oi:Oper) (t:Tmp),l.toArray[i]?=some oi→oi.dst=some t→t<a.tmps.size:=fun i oi t hi ht=>by
  have:=List.all_eq_true.1 hs oi (List.mem_of_getElem? (by simpa using hi));rw[ht]at this;exact Nat.lt_of_lt_of_eq (of_decide_eq_true this) hn.symm
 refine wp_region_any hm (wpAny_freeS hf hsz R0 Rel Ψ hst (fun i oi hi ρ W r c g f ho hd ha=>?_) (fun V W r hV=>?_) l.toArray.size _ a _ ⟨by simp,rfl,rfl,fun t _=>rfl,fun j oj hj hl=>?_,h0⟩ ?_)
 ·have h1:=allOb_get l 0 hob i oi (by simpa using hi)
  rw[Nat.zero_add]at h1;refine h1 ρ W r c g f (fun t ht=>ho t fun j oj hj e=>?_) (fun j t hw hl=>?_) (fun j hj hw=>?_)
  ·have:=List.all_eq_true.1 ht oj (by
    have:=List.mem_of_getElem? (l:=l) (by simpa using hj)
    simpa using this)
   rw[e]at this;simp at this
  ·unfold isW at hw
   cases hj:(l.toArray)[j]? with
   | none=>rw[hj]at hw;cases hw
   | some oj=>
    rw[hj]at hw;exact hd j oj t hj (by simpa using hw) (by simpa using hl)
  ·unfold aftB at hw
   rw[Array.any_eq_true']at hw;obtain⟨e,he,h5⟩:=hw;rw[Bool.and_eq_true]at h5;exact⟨_,ha j _ (Array.getElem?_eq_getElem hj) ⟨e,he,h5.1,by simpa using h5.2⟩⟩
 ·have:=hfin V W r (fun i hi=>hV i l[i] (by simp[hi]))
  simpa using this
 ·rw[getD_replicate_in (by exact(Array.getElem?_eq_some_iff.1 hj).1)]at hl
  cases hl
 ·unfold unl
  exact Nat.le_trans (List.length_filter_le _ _) (by simp)
theorem outs_store_row {o:Oper} {ρ:Operand→Value} {W:World} {R:Value→World→Prop} (ty:TypeId) (x y:Operand) (ho:o.op=.store ty x y)
 (g:Nat) (cells:Array Value) (hx:ρ x=.pointer (some ⟨g,0,none⟩)) (hy:ρ y=.agg cells)
 (t:TypeId) (old:Array Value) (hg:W.heap[g]?=some (.cells old t (0,0))) (hi:(P.info? ty).map (·.size)=some cells.size)
 (hold:old.size=cells.size) (h1:cells.all (·.oneCell')=true) (h:R undef (W.setRow g cells)):outs P o ρ W R:=by
 unfold outs execOp;simp only[ho,hx,hy,Instr.storeAt,Instr.sureAddr,Sem.run_bind,Sem.run_pure,Result.andThen_ok,run_storeVar_row W g t ty old cells hg hi hold h1];exact h
theorem outs_store_one {o:Oper} {ρ:Operand→Value} {W:World} {R:Value→World→Prop} (ty:TypeId) (x y:Operand) (ho:o.op=.store ty x y)
 (g:Nat) (v:Value) (hx:ρ x=.pointer (some ⟨g,0,none⟩)) (hy:ρ y=v) (h1:v.oneCell'=true)
 (t:TypeId) (old:Value) (hg:W.heap[g]?=some (.cells #[old] t (0,0))) (hi:(P.info? ty).map (·.size)=some 1) (h:R undef (W.setRow g #[v])):outs P o ρ W R:=by
 unfold outs execOp;simp only[ho,hx,hy,Instr.storeAt,Instr.sureAddr,Sem.run_bind,Sem.run_pure,Result.andThen_ok,run_storeVar_one W g t ty old v hg hi h1];exact h
end
theorem run_b62 (x y z:Int) (a:Option Addr) (n c:Nat) (w:World):(Instr.build 42 #[(0,.int .u32 x),(1,.int .u32 y),(2,.slice a n c),(3,.int .u32 z)]).run Tryz.prog w=.ok (.agg #[.int .u32 x,.int .u32 y,.slice a n c,.int .u32 z]) w:=by kernel_rfl
theorem info62:(Tryz.prog.info? 42).map (·.size)=some 4:=by kernel_rfl
theorem size62 (a b c d:Value):(Tryz.prog.info? 42).map (·.size)=some (#[a,b,c,d]:Array Value).size:=info62
theorem zero62 (w:World):(zeroValue 42).run Tryz.prog w=.ok (.agg #[.int .u32 0,.int .u32 0,.slice none 0 0,.int .u32 0]) w:=by kernel_rfl
theorem cells62 {w:World} {g:Nat} {a b c d:Value} (h:w.heap[g]?=some (.cells #[a,b,c,d] 42 (0,0))):w.cell? ⟨g,0,none⟩=some a∧w.cell? ⟨g,1,none⟩=some b∧w.cell? ⟨g,2,none⟩=some c∧w.cell? ⟨g,3,none⟩=some d:=
 ⟨cell_of_row w g 0 _ _ _ h,cell_of_row w g 1 _ _ _ h,cell_of_row w g 2 _ _ _ h,cell_of_row w g 3 _ _ _ h⟩
theorem own_reads {w:World} {B e sz n:Nat} {v:Value} {xs:List Value} (h:w.ownsRow B e sz v n xs):Reads w sz v n xs:=by
 obtain⟨a,c,hv,hn,hc,hp⟩:=own_sl h;refine⟨a,c,hv,h.1,hn,hc,fun ha=>?_,fun h0=>?_⟩
 ·rcases h.2 with⟨e1,e2⟩|⟨g,cap,cur,e1,-⟩
  ·rw[hv]at e1;injection e1 with _ _ e3
  ·rw[hv,ha]at e1;cases e1
 ·obtain⟨g,ha,hg,hcell⟩:=hp h0
  exact⟨g,0,ha,hg,fun j hj=>by rw[Nat.zero_add];exact hcell j hj⟩
def evOwn (B:Nat) (l:List Nat) (W:World) (v:Value):Prop:=∃aa ca,v=.slice aa l.length ca∧W.ownsRow B 25 1 v l.length (encN .u32 l)
theorem evOwn.below {B:Nat} {l:List Nat} {W W':World} {v:Value} (h:evOwn B l W v) (hb:Below W.heap.size W W'):evOwn B l W' v:=by
 obtain⟨aa,ca,e,h⟩:=h;exact⟨aa,ca,e,own_below h hb⟩
theorem evOwn.setRow {B:Nat} {l:List Nat} {W:World} {v:Value} (h:evOwn B l W v) {q:Nat} (hq:q<B) {cs:Array Value}:evOwn B l (W.setRow q cs) v:=by
 obtain⟨aa,ca,e,h⟩:=h;exact⟨aa,ca,e,own_setRow h hq⟩
structure EvR (w:World) (t9 q:Nat) (val:Nat) (vw:Value) (W:World):Prop where
 b:Below w.heap.size w W
 r9:W.heap[t9]?=some (.cells #[.int .u32 val,vw] 69 (0,0))
 rq:∃old:Array Value,old.size=4∧W.heap[q]?=some (.cells old 42 (0,0))
theorem EvR.below {w W W':World} {t9 q val:Nat} {vw:Value} (h:EvR w t9 q val vw W) (hb:Below W.heap.size W W'):EvR w t9 q val vw W':=by
 obtain⟨o,ho,hr⟩:=h.rq;exact⟨Bel.tr h.b hb,(hb.block _ (Array.getElem?_eq_some_iff.1 h.r9).1).trans h.r9,o,ho,(hb.block _ (Array.getElem?_eq_some_iff.1 hr).1).trans hr⟩
def evΨ (q t9 B at_ x val:Nat) (vl:Value) (l:List Nat):Nat→Value→World→Prop
 | 0,v,W=>v=.int .u32 at_
 | 1,v,W=>v=.int .u32 x
 | 2,v,W=>v=vl
 | 3,v,W=>evOwn B l W v
 | 4,v,W=>v=.pointer (some ⟨t9,0,none⟩)
 | 5,v,W=>v=.int .u32 val
 | 6,v,W=>∃va,evOwn B l W va∧v=.agg #[.int .u32 at_,.int .u32 x,va,.int .u32 val]
 | 7,v,W=>∃va,evOwn B l W va∧W.heap[q]?=some (.cells #[.int .u32 at_,.int .u32 x,va,.int .u32 val] 42 (0,0))
 | 8,v,W=>v=.int .i64 0
 | _,_,_=>True
theorem evΨ_keep {q t9 B at_ x val:Nat} {vl:Value} {l:List Nat} {W W':World} (h1:∀v,evOwn B l W v→evOwn B l W' v) (h2:∀va,evOwn B l W va∧W.heap[q]?=some (.cells #[.int .u32 at_,.int .u32 x,va,.int .u32 val] 42 (0,0))→∃va,evOwn B l W' va∧W'.heap[q]?=some (.cells #[.int .u32 at_,.int .u32 x,va,.int .u32 val] 42 (0,0))):∀(i:Nat) (v:Value),evΨ q t9 B at_ x val vl l i v W→evΨ q t9 B at_ x val vl l i v W'
 | 0,v,h=>h
 | 1,v,h=>h
 | 2,v,h=>h
 | 3,v,h=>h1 v h
 | 4,v,h=>h
 | 5,v,h=>h
 | 6,v,h=>let⟨va,h3,h4⟩:=h;⟨va,h1 va h3,h4⟩
 | 7,v,h=>let⟨va,h3,h4⟩:=h;h2 va ⟨h3,h4⟩
 | 8,v,h=>h
 | _+9,_,_=>trivial
section
variable {w:World} {v:Value} {gr:List (Nat×Int)}
def EventPost (at_ x:Nat) (l:List Nat) (val:Nat) (w:World) (e:Ending) (w':World):Prop:=
 ∃va,e=.returned (.tuple #[.agg #[.int .u32 at_,.int .u32 x,va,.int .u32 val],.int .i64 0])∧w'.ownsRow w.heap.size 25 1 va l.length (encN .u32 l)∧Below w.heap.size w w'
theorem event_any (hg:GateAt w v gr) {x at_ val:Nat} (hx:x<4294967296) {n:Nat} (hn:grantedN gr x=some (n:Int)) {vl:Value} {l:List Nat} (hl:w.ownsRow 0 25 1 vl n (encN .u32 l)) (hln:l.length=n) (hn15:n≤15) {vw:Value} {ws:List (Nat×List Nat)} (hw:WsAt w vw ws) (hf:repFits ws=true) :
 Calls Tryz.prog 151 #[v,.int .u32 at_,.int .u32 x,vl,.agg #[.int .u32 val,vw]] w (EventPost at_ x l val w):=by
 have hmx:Tryz.prog.follows .mixedOrders=true:=by kernel_rfl
 have hz:=zero62;have hbd:=run_b62;subst hln;have HG:=Lib.hid (fun W (hW:Below w.heap.size w W)=>granted_any (hg.below hW) x hx);rw[hn]at HG;have HMd:=Lib.hid (fun W (hW:Below w.heap.size w W)=>gmade_any (hg.below hW));have HFi:=Lib.hid (fun W (hW:Below w.heap.size w W)=>rfits_any (hw.below hW) val);rw[hf]at HFi;have HCl:=Lib.hid (fun W (hW:Below w.heap.size w W)=>cloneW_any vl l.length (encN .u32 l) (by omega) (fun x hx=>by simp only[encN,List.mem_map]at hx;obtain⟨y,-,rfl⟩:=hx;rfl) W (own_reads (own_below hl hW)));obtain⟨a,cap,rfl,-⟩:=hw;obtain⟨al,cl,rfl,-⟩:=own_sl hl;obtain⟨W1,hW1⟩:∃W1,W1=(w.alloc (.cells #[.int .u32 val,.slice a ws.length cap] 69)).alloc (.cells #[.int .u32 0,.int .u32 0,.slice none 0 0,.int .u32 0] 42):=⟨_,rfl⟩;have hb1:Below w.heap.size w W1:=by rw[hW1];exact Bel.al (Bel.new _ _) _
 have hh1:W1.heap[w.heap.size]?=some (.cells #[.int .u32 val,.slice a ws.length cap] 69 (0,0)):=by rw[hW1,Below.heap_alloc _ _ _ (by simp)];exact heap_alloc_new _ _
 have hh2:W1.heap[w.heap.size+1]?=some (.cells #[.int .u32 0,.int .u32 0,.slice none 0 0,.int .u32 0] 42 (0,0)):=by
  rw[hW1];have:=heap_alloc_new (w.alloc (.cells #[.int .u32 val,.slice a ws.length cap] 69)) (.cells #[.int .u32 0,.int .u32 0,.slice none 0 0,.int .u32 0] 42)
  simpa using this
 have HB1:=Lib.hid hb1;have HH1:=Lib.hid hh1;have HH2:=Lib.hid hh2;have hl1:w.heap.size<W1.heap.size:=(Array.getElem?_eq_some_iff.1 hh1).1;have hl2:w.heap.size+1<W1.heap.size:=(Array.getElem?_eq_some_iff.1 hh2).1;obtain⟨p0,p1⟩:=cells162 hh1;generalize ws.length=nw at*;clear hg hl hn hf hb1 hh1 hh2;go_enter Tryz.func151,Tryz.ntmps151;go_wp2_with fail;rw[←hW1];clear hW1;refine(HG.out W1 HB1.out).mono ?_;rintro e w2⟨rfl,rfl⟩;go_wp2_with fail;refine(HMd.out W1 HB1.out).mono ?_;rintro e w2⟨rfl,rfl⟩;go_wp2_with fail;refine(HFi.out W1 HB1.out).mono ?_;rintro e w2⟨rfl,hb2⟩;have q0:=(hb2.cell (p:=⟨w.heap.size,0,none⟩) hl1).trans p0;have HB2:=Lib.hid (Bel.tr HB1.out hb2);have hl3:w.heap.size<w2.heap.size:=Nat.lt_of_lt_of_le hl1 hb2.size;have hl4:w.heap.size+1<w2.heap.size:=Nat.lt_of_lt_of_le hl2 hb2.size;have HK2:=Lib.hid (((hb2.block _ hl2).trans HH2.out:w2.heap[w.heap.size+1]?=_):w2.drew.heap[w.heap.size+1]?=_);have HK9:=Lib.hid (((hb2.block _ hl1).trans HH1.out:w2.heap[w.heap.size]?=_):w2.drew.heap[w.heap.size]?=_);clear hb2 p0 p1;go_wp2_with fail;refine wp_region_toldS hmx (by kernel_rfl) 47 rfl (by kernel_rfl) (EvR w w.heap.size (w.heap.size+1) val (.slice a nw cap)) (fun W W'=>∀i v,evΨ (w.heap.size+1) w.heap.size (w.heap.size+2) at_ x val (.slice al l.length cl) l i v W→evΨ (w.heap.size+1) w.heap.size (w.heap.size+2) at_ x val (.slice al l.length cl) l i v W') (evΨ (w.heap.size+1) w.heap.size (w.heap.size+2) at_ x val (.slice al l.length cl) l) (fun i v W W' h=>h i v) (⟨HB2.out.drew,HK9.out,_,rfl,HK2.out⟩) ⟨?_,?_,?_,?_,?_,?_,?_,?_,?_,trivial⟩ ?_
 ·intro ρ W hW hc hg hf ho hd ha
  have e0:ρ (.tmp 1)=.int .u32 at_:=ho 1 (by kernel_rfl);exact outs_run (v:=.int .u32 at_) (W':=W) (by simp[go_sem,hc,hf,e0]) ⟨hW,fun _ _ h=>h,rfl⟩
 ·intro ρ W hW hc hg hf ho hd ha
  have e0:ρ (.tmp 2)=.int .u32 x:=ho 2 (by kernel_rfl);exact outs_run (v:=.int .u32 x) (W':=W) (by simp[go_sem,hc,hf,e0]) ⟨hW,fun _ _ h=>h,rfl⟩
 ·intro ρ W hW hc hg hf ho hd ha
  have e0:ρ (.tmp 3)=.slice al l.length cl:=ho 3 (by kernel_rfl);exact outs_run (v:=.slice al l.length cl) (W':=W) (by simp[go_sem,hc,hf,e0]) ⟨hW,fun _ _ h=>h,rfl⟩
 ·intro ρ W hW hc hg hf ho hd ha
  have e0:ρ (.tmp 42)=_:=hd 2 42 (by kernel_rfl) (by kernel_rfl);refine outs_call (by simp[go_sem,e0,hf];done) ((HCl.out W hW.b).mono ?_);rintro e' W'⟨va,rfl,hown,hb⟩;have hw:evOwn (w.heap.size+2) l W' va:=⟨_,_,(own_sl hown).choose_spec.choose_spec.1,own_downT hown (by obtain⟨o9,-,h9⟩:=hW.rq;have:=(Array.getElem?_eq_some_iff.1 h9).1;omega)⟩;refine⟨va,rfl,hW.below hb,evΨ_keep (fun v h=>evOwn.below h hb) (fun v h=>⟨v,evOwn.below h.1 hb,(hb.block _ (Array.getElem?_eq_some_iff.1 h.2).1).trans h.2⟩),hw⟩
 ·intro ρ W hW hc hg hf ho hd ha
  have e0:ρ (.tmp 9)=.pointer (some ⟨w.heap.size,0,none⟩):=ho 9 (by kernel_rfl);exact outs_run (v:=.pointer (some ⟨w.heap.size,0,none⟩)) (W':=W) (by simp[go_sem,hc,hf,e0]) ⟨hW,fun _ _ h=>h,rfl⟩
 ·intro ρ W hW hc hg hf ho hd ha
  have e0:ρ (.tmp 44)=.pointer (some ⟨w.heap.size,0,none⟩):=hd 4 44 (by kernel_rfl) (by kernel_rfl);have c0:=(cells162 hW.r9).1;exact outs_run (v:=.int .u32 val) (W':=W) (by simp[go_sem,hc,hf,e0,c0]) ⟨hW,fun _ _ h=>h,rfl⟩
 ·intro ρ W hW hc hg hf ho hd ha
  have e0:ρ (.tmp 40)=_:=hd 0 40 (by kernel_rfl) (by kernel_rfl);have e1:ρ (.tmp 41)=_:=hd 1 41 (by kernel_rfl) (by kernel_rfl);have e3:ρ (.tmp 45)=_:=hd 5 45 (by kernel_rfl) (by kernel_rfl);have e2:evOwn (w.heap.size+2) l W (ρ (.tmp 43)):=hd 3 43 (by kernel_rfl) (by kernel_rfl);have e2b:=e2;obtain⟨aa,ca,e2,-⟩:=e2;exact outs_val _ rfl (by simp only[List.map_toArray,List.map_cons,List.map_nil,e0,e1,e2,e3];exact run_b62 _ _ _ _ _ _ W) ⟨hW,fun _ _ h=>h,⟨_,e2▸e2b,rfl⟩⟩
 ·intro ρ W hW hc hg hf ho hd ha
  have e0:ρ (.tmp 10)=.pointer (some ⟨w.heap.size+1,0,none⟩):=ho 10 (by kernel_rfl);obtain⟨va,hva,e1⟩:∃va,evOwn (w.heap.size+2) l W va∧ρ (.tmp 46)=.agg #[.int .u32 at_,.int .u32 x,va,.int .u32 val]:=hd 6 46 (by kernel_rfl) (by kernel_rfl);obtain⟨o9,h9,hr⟩:=hW.rq;have hva2:=hva;obtain⟨aa,ca,rfl,-⟩:=hva2;exact outs_store_row 42 (.tmp 10) (.tmp 46) rfl (w.heap.size+1) _ e0 e1 42 o9 hr info62 h9 (by simp[Value.oneCell']) ⟨⟨below_setRow hW.b _ (by omega) _,(setRow_other _ _ _ _ (by omega)).trans hW.r9,⟨_,rfl,setRow_heap _ _ _ _ _ _ hr⟩⟩,evΨ_keep (fun v h=>evOwn.setRow h (by omega)) (fun v h=>⟨_,evOwn.setRow hva (by omega),setRow_heap _ _ _ _ _ _ hr⟩),⟨_,evOwn.setRow hva (by omega),setRow_heap _ _ _ _ _ _ hr⟩⟩
 ·intro ρ W hW hc hg hf ho hd ha
  exact outs_run (v:=.int .i64 0) (W':=W) (by simp[go_sem,hc]) ⟨hW,fun _ _ h=>h,rfl⟩
 ·intro V W hW hV
  obtain⟨va,hva,hr⟩:∃va,evOwn (w.heap.size+2) l W va∧W.heap[w.heap.size+1]?=some (.cells #[.int .u32 at_,.int .u32 x,va,.int .u32 val] 42 (0,0)):=hV 7 (by decide);have f8:V 8=.int .i64 0:=hV 8 (by decide);have HBw:=Lib.hid hW.b;clear hV hW;simp only[putAll,Act.put,List.setIfInBounds_toArray,List.set_cons_zero,List.set_cons_succ,f8];obtain⟨aa,ca,rfl,hown⟩:=hva;have HO:=Lib.hid hown;have HRr:=Lib.hid hr;clear hown hr;go_wp2_with fail;refine bodyPost_ret (v:=.tuple #[.agg #[.int .u32 at_,.int .u32 x,.slice aa l.length ca,.int .u32 val],.int .i64 0]) (results_cell_tmp Tryz.results151 _ _ (w.heap.size+1) 42 _ (0,0) _ rfl HRr.out Tryz.underlying42 rfl (size62 _ _ _ _) _ rfl) rfl ?_;exact⟨_,rfl,own_downT HO.out (by omega),HBw.out⟩
end
def encE:List (Ev×Value)→List Value
 | []=>[]
 | x::l=>.int .u32 x.1.at_:: .int .u32 x.1.num::x.2:: .int .u32 x.1.val::encE l
theorem encE_append (l m:List (Ev×Value)):encE (l++m)=encE l++encE m:=by
 induction l with
 | nil=>rfl
 | cons x l ih=>simp only[List.cons_append,encE,ih]
theorem encE_length (l:List (Ev×Value)):(encE l).length=l.length*4:=by
 induction l with
 | nil=>rfl
 | cons x l ih=>simp only[encE,List.length_cons,ih];omega
structure MachX (w:World) (b:Nat) (K:MacK) (s:St) (vo:Value) (R:MacR) (M:MemK) (vt:Value) (logs:Bool) (tou:List (Nat×Bool)) (evs:List (Ev×Value)) (lg:List (Nat×Bool)):Prop where
 m:Mach w b K s vo R M vt logs tou
 ev:w.ownsRow 0 42 4 R.events evs.length (encE evs)
 ea:∀x∈evs,w.ownsRow 0 25 1 x.2 x.1.args.length (encN .u32 x.1.args)
 eo:∀x∈evs,∀g,x.2.ownBlock=some g→vo.ownBlock≠some g
 lr:w.ownsRow 0 66 2 R.log lg.length (encT lg)
 ll:lg.length≤65536
 lv:∀g,R.log.ownBlock=some g→vt.ownBlock≠some g
def allF (b:Nat) (vo:Value) (R:MacR) (M:MemK) (vt:Value):Nat→Prop:=fun k=>machF b vo M vt k∨R.events.ownBlock=some k∨R.log.ownBlock=some k
section
variable {w w':World} {b:Nat} {K:MacK} {s s':St} {vo vo':Value} {R:MacR} {M:MemK} {vt vt':Value} {logs:Bool} {tou tou':List (Nat×Bool)} {evs:List (Ev×Value)} {lg:List (Nat×Bool)}
theorem MacB.ne_own {V:MacV} (h:MacB w b K V) {B e sz n:Nat} {v:Value} {xs:List Value} (ho:w.ownsRow B e sz v n xs) (he:e≠85) {g:Nat} (hg:v.ownBlock=some g):g≠b:=fun e0=>h.not_own ho he (by rw[←e0];exact hg)
theorem MachX.ev_apart (h:MachX w b K s vo R M vt logs tou evs lg):∀g,R.events.ownBlock=some g→¬machF b vo M vt g:=by
 intro g hg hf;rcases hf with(rfl|hf)|rfl|rfl|hf
 ·exact h.m.o.m.not_own h.ev (by decide) hg
 ·exact own_apart h.ev h.m.o.o (by decide) g hg hf
 ·exact not_row_of h.ev h.m.mem.hp (by decide) hg
 ·exact own_apart h.ev h.m.mem.row (by decide) _ hg rfl
 ·exact own_apart h.ev h.m.mem.tr (by decide) g hg hf
theorem MachX.ea_apart (h:MachX w b K s vo R M vt logs tou evs lg):∀x∈evs,∀g,x.2.ownBlock=some g→¬machF b vo M vt g:=by
 intro x hx g hg hf;have hr:=h.ea x hx;rcases hf with(rfl|hf)|rfl|rfl|hf
 ·exact h.m.o.m.not_own hr (by decide) hg
 ·exact h.eo x hx g hg hf
 ·exact not_row_of hr h.m.mem.hp (by decide) hg
 ·exact own_apart hr h.m.mem.row (by decide) _ hg rfl
 ·exact own_apart hr h.m.mem.tr (by decide) g hg hf
theorem MachX.lr_apart (h:MachX w b K s vo R M vt logs tou evs lg):∀g,R.log.ownBlock=some g→¬machF b vo M vt g:=by
 intro g hg hf;rcases hf with(rfl|hf)|rfl|rfl|hf
 ·exact h.m.o.m.not_own h.lr (by decide) hg
 ·exact own_apart h.lr h.m.o.o (by decide) g hg hf
 ·exact not_row_of h.lr h.m.mem.hp (by decide) hg
 ·exact own_apart h.lr h.m.mem.row (by decide) _ hg rfl
 ·exact h.lv g hg hf
theorem MachX.act (h:MachX w b K s vo R M vt logs tou evs lg) (hm:Mach w' b K s' vo' R M vt' logs tou') (hf:Fr w w' (machF b vo M vt) (machF b vo' M vt')):MachX w' b K s' vo' R M vt' logs tou' evs lg:=by
 refine⟨hm,own_fr h.ev hf h.ev_apart,fun x hx=>own_fr (h.ea x hx) hf (h.ea_apart x hx),fun x hx g hg e=>?_,own_fr h.lr hf h.lr_apart,h.ll,fun g hg e=>?_⟩
 ·rcases hf.foot g (.inl (.inr e))with h1|h1
  ·exact h.ea_apart x hx g hg h1
  ·have:=((h.ea x hx).lt g hg).2;omega
 ·rcases hf.foot g (.inr (.inr (.inr e)))with h1|h1
  ·exact h.lr_apart g hg h1
  ·have:=(h.lr.lt g hg).2;omega
theorem frA (hf:Fr w w' (machF b vo M vt) (machF b vo' M vt')) (R:MacR):Fr w w' (allF b vo R M vt) (allF b vo' R M vt'):=
 hf.mono (fun _ e=>.inl e) (fun _ e=>e.elim .inr (fun e=>.inl (.inr e)))
theorem MachX.below (h:MachX w b K s vo R M vt logs tou evs lg) (hb:Below w.heap.size w w'):MachX w' b K s vo R M vt logs tou evs lg:=h.act (h.m.below hb) (Fr.of hb _)
end
end Go.Proofs.YtdffaepbkecoeaaGreat
