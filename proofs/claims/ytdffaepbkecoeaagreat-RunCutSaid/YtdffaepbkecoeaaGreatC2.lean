import Derived.Test.YtdffaepbkecoeaaGreatC1
import Derived.RegionTactic
import Derived.BigRegion
import Derived.Laws.CopyOwn
import Derived.Laws.MakeOwn
import Derived.Laws.BitsAllLaws
import Derived.Laws.Small
import Derived.Scope
import Derived.Laws.Closers25b
import Derived.Defers
import Derived.Recover
set_option maxRecDepth 100000
set_option maxHeartbeats 8000000
namespace Go.Proofs.YtdffaepbkecoeaaGreat
open Go.RowKit
set_option linter.unusedVariables false
theorem info217:(Tryz.prog.info? 167).map (fun i=>(i.zero,i.size,i.bytes))=some (some (.agg #[.string ByteArray.empty,.int .u32 0]),2,24):=by kernel_rfl
theorem encI_one (l:List (Nat×Nat)):∀u∈encI l,u.oneCell'=true:=by
 induction l with
 | nil=>intro u h;cases h
 | cons i l ih=>
  intro u h;rcases List.mem_cons.1 h with rfl|h
  ·rfl
  ·rcases List.mem_cons.1 h with rfl|h
   ·rfl
   ·exact ih u h
theorem run_bs22_0' (w:World):(Instr.buildSlice 22 0 #[]).run Tryz.prog w=.ok (.slice (some ⟨w.heap.size,0,none⟩) 0 0) (w.alloc (.cells #[] 106)):=by kernel_rfl
theorem cloneI_any (u:Value) (n:Nat) (cs:List Value) (hn:n≤5000000000000) (hone:∀x∈cs,x.oneCell'=true) (w:World) (hu:Reads w 2 u n cs) :
 Calls Tryz.prog 102 #[u] w fun e w'=>∃v,e=.returned v∧w'.ownsRow w.heap.size 106 2 v n cs∧Below w.heap.size w w':=by
 obtain⟨i0,hi,hz0,hz1,hz2⟩:=info_parts info36';have hb:=run_bs22_0';have qn:∀(w:World) (a:Option Addr) (n c n' c':Nat),(binOp .eql 22 (.slice a n c) (.slice none n' c')).run Tryz.prog w=.ok (.bool a.isNone) w:=fun w a n c n' c'=>Lib.run_eql_slice_nil w _ _ a n c n' c' Tryz.underlying22;obtain⟨a,cap,rfl,h1,h2,h3,hnn,hp⟩:=hu;cases a with
 | none=>
  obtain rfl:=hnn rfl;obtain rfl:n=0:=by omega
  obtain rfl:cs=[]:=List.eq_nil_of_length_eq_zero (by omega);clear hp hnn h1;go_enter Tryz.func102,Tryz.ntmps102;go_wp2;exact bodyPost_ret (v:=.slice none 0 0) (by simp[results,Tryz.results102,go_sem]) rfl ⟨_,rfl,World.ownsRow_nil _ _ _ _,Below.refl _ _⟩
 | some ad=>
  have Hu:=Lib.hid (show Reads (w.alloc (.cells #[] 106)) 2 (.slice (some ad) n cap) n cs from Reads.below ⟨some ad,cap,rfl,h1,h2,h3,hnn,hp⟩ (Bel.new _ _));have Hone:=Lib.hid hone;have Hoe:=Lib.hid (own_empty w 106 2);clear hp hnn h1 hone;go_enter Tryz.func102,Tryz.ntmps102
  go_wp2_with((with_reducible refine wpList_append_reads (o:=⟨some 7,.call {callee:=.builtin .append,args:=#[.tmp 5,.tmp 6],argTypes:=#[22,22]},_,_,_,none⟩) rfl _ _ 22 rfl 106 i0 (.agg #[.int .u8 0,.int .u32 0]) 2 8 Tryz.underlying22 hi hz0 hz1 hz2 ?_ ?_ _ 0 [] ?_ Hoe.out _ n cs ?_ Hu.out Hone.out ?_ ?_ ?_);rfl;decide;rfl;rfl;(unfold maxLen;omega);omega;intro v1 w1 o1 g1)
  have hx:w1.ownsRow w.heap.size 106 2 v1 n cs:=by
   have:=own_from o1 (B:=w.heap.size) (fun g e=>by
    rcases g1.2 g e with h'|h'
    ·cases h';exact Nat.le_refl _
    ·simp at h';omega)
   simpa using this
  have hbw:Below w.heap.size w w1:=(Bel.new w (.cells #[] 106)).grown g1.1 (by simp) (fun g e=>by cases e;exact Nat.le_refl _);exact bodyPost_ret (v:=v1) (by simp[results,Tryz.results102,go_sem]) rfl ⟨_,rfl,hx,hbw⟩
theorem run_bs23_0' (w:World):(Instr.buildSlice 23 0 #[]).run Tryz.prog w=.ok (.slice (some ⟨w.heap.size,0,none⟩) 0 0) (w.alloc (.cells #[] 25)):=by kernel_rfl
theorem cloneW_any (u:Value) (n:Nat) (cs:List Value) (hn:n≤5000000000000) (hone:∀x∈cs,x.oneCell'=true) (w:World) (hu:Reads w 1 u n cs) :
 Calls Tryz.prog 32 #[u] w fun e w'=>∃v,e=.returned v∧w'.ownsRow w.heap.size 25 1 v n cs∧Below w.heap.size w w':=by
 obtain⟨i0,hi,hz0,hz1,hz2⟩:=info_parts info32;have hb:=run_bs23_0';have qn:∀(w:World) (a:Option Addr) (n c n' c':Nat),(binOp .eql 23 (.slice a n c) (.slice none n' c')).run Tryz.prog w=.ok (.bool a.isNone) w:=fun w a n c n' c'=>Lib.run_eql_slice_nil w _ _ a n c n' c' Tryz.underlying23;obtain⟨a,cap,rfl,h1,h2,h3,hnn,hp⟩:=hu;cases a with
 | none=>
  obtain rfl:=hnn rfl;obtain rfl:n=0:=by omega
  obtain rfl:cs=[]:=List.eq_nil_of_length_eq_zero (by omega);clear hp hnn h1;go_enter Tryz.func32,Tryz.ntmps32;go_wp2;exact bodyPost_ret (v:=.slice none 0 0) (by simp[results,Tryz.results32,go_sem]) rfl ⟨_,rfl,World.ownsRow_nil _ _ _ _,Below.refl _ _⟩
 | some ad=>
  have Hu:=Lib.hid (show Reads (w.alloc (.cells #[] 25)) 1 (.slice (some ad) n cap) n cs from Reads.below ⟨some ad,cap,rfl,h1,h2,h3,hnn,hp⟩ (Bel.new _ _));have Hone:=Lib.hid hone;have Hoe:=Lib.hid (own_empty w 25 1);clear hp hnn h1 hone;go_enter Tryz.func32,Tryz.ntmps32
  go_wp2_with((with_reducible refine wpList_append_reads (o:=⟨some 7,.call {callee:=.builtin .append,args:=#[.tmp 5,.tmp 6],argTypes:=#[23,23]},_,_,_,none⟩) rfl _ _ 23 rfl 25 i0 (.int .u32 0) 1 4 Tryz.underlying23 hi hz0 hz1 hz2 ?_ ?_ _ 0 [] ?_ Hoe.out _ n cs ?_ Hu.out Hone.out ?_ ?_ ?_);rfl;decide;rfl;rfl;(unfold maxLen;omega);omega;intro v1 w1 o1 g1)
  have hx:w1.ownsRow w.heap.size 25 1 v1 n cs:=by
   have:=own_from o1 (B:=w.heap.size) (fun g e=>by
    rcases g1.2 g e with h'|h'
    ·cases h';exact Nat.le_refl _
    ·simp at h';omega)
   simpa using this
  have hbw:Below w.heap.size w w1:=(Bel.new w (.cells #[] 25)).grown g1.1 (by simp) (fun g e=>by cases e;exact Nat.le_refl _);exact bodyPost_ret (v:=v1) (by simp[results,Tryz.results32,go_sem]) rfl ⟨_,rfl,hx,hbw⟩
theorem run_bs24_0' (w:World):(Instr.buildSlice 24 0 #[]).run Tryz.prog w=.ok (.slice (some ⟨w.heap.size,0,none⟩) 0 0) (w.alloc (.cells #[] 5)):=by kernel_rfl
theorem cloneB_any (u:Value) (n:Nat) (cs:List Value) (hn:n≤5000000000000) (hone:∀x∈cs,x.oneCell'=true) (w:World) (hu:Reads w 1 u n cs) :
 Calls Tryz.prog 70 #[u] w fun e w'=>∃v,e=.returned v∧w'.ownsRow w.heap.size 5 1 v n cs∧Below w.heap.size w w':=by
 obtain⟨i0,hi,hz0,hz1,hz2⟩:=info_parts info5;have hb:=run_bs24_0';have qn:∀(w:World) (a:Option Addr) (n c n' c':Nat),(binOp .eql 24 (.slice a n c) (.slice none n' c')).run Tryz.prog w=.ok (.bool a.isNone) w:=fun w a n c n' c'=>Lib.run_eql_slice_nil w _ _ a n c n' c' Tryz.underlying24;obtain⟨a,cap,rfl,h1,h2,h3,hnn,hp⟩:=hu;cases a with
 | none=>
  obtain rfl:=hnn rfl;obtain rfl:n=0:=by omega
  obtain rfl:cs=[]:=List.eq_nil_of_length_eq_zero (by omega);clear hp hnn h1;go_enter Tryz.func70,Tryz.ntmps70;go_wp2;exact bodyPost_ret (v:=.slice none 0 0) (by simp[results,Tryz.results70,go_sem]) rfl ⟨_,rfl,World.ownsRow_nil _ _ _ _,Below.refl _ _⟩
 | some ad=>
  have Hu:=Lib.hid (show Reads (w.alloc (.cells #[] 5)) 1 (.slice (some ad) n cap) n cs from Reads.below ⟨some ad,cap,rfl,h1,h2,h3,hnn,hp⟩ (Bel.new _ _));have Hone:=Lib.hid hone;have Hoe:=Lib.hid (own_empty w 5 1);clear hp hnn h1 hone;go_enter Tryz.func70,Tryz.ntmps70
  go_wp2_with((with_reducible refine wpList_append_reads (o:=⟨some 7,.call {callee:=.builtin .append,args:=#[.tmp 5,.tmp 6],argTypes:=#[24,24]},_,_,_,none⟩) rfl _ _ 24 rfl 5 i0 (.int .u8 0) 1 1 Tryz.underlying24 hi hz0 hz1 hz2 ?_ ?_ _ 0 [] ?_ Hoe.out _ n cs ?_ Hu.out Hone.out ?_ ?_ ?_);rfl;decide;rfl;rfl;(unfold maxLen;omega);omega;intro v1 w1 o1 g1)
  have hx:w1.ownsRow w.heap.size 5 1 v1 n cs:=by
   have:=own_from o1 (B:=w.heap.size) (fun g e=>by
    rcases g1.2 g e with h'|h'
    ·cases h';exact Nat.le_refl _
    ·simp at h';omega)
   simpa using this
  have hbw:Below w.heap.size w w1:=(Bel.new w (.cells #[] 5)).grown g1.1 (by simp) (fun g e=>by cases e;exact Nat.le_refl _);exact bodyPost_ret (v:=v1) (by simp[results,Tryz.results70,go_sem]) rfl ⟨_,rfl,hx,hbw⟩
theorem run_bs26_0' (w:World):(Instr.buildSlice 26 0 #[]).run Tryz.prog w=.ok (.slice (some ⟨w.heap.size,0,none⟩) 0 0) (w.alloc (.cells #[] 167)):=by kernel_rfl
theorem cloneX_any (u:Value) (n:Nat) (cs:List Value) (hn:n≤5000000000000) (hone:∀x∈cs,x.oneCell'=true) (w:World) (hu:Reads w 2 u n cs) :
 Calls Tryz.prog 103 #[u] w fun e w'=>∃v,e=.returned v∧w'.ownsRow w.heap.size 167 2 v n cs∧Below w.heap.size w w':=by
 obtain⟨i0,hi,hz0,hz1,hz2⟩:=info_parts info217;have hb:=run_bs26_0';have qn:∀(w:World) (a:Option Addr) (n c n' c':Nat),(binOp .eql 26 (.slice a n c) (.slice none n' c')).run Tryz.prog w=.ok (.bool a.isNone) w:=fun w a n c n' c'=>Lib.run_eql_slice_nil w _ _ a n c n' c' Tryz.underlying26;obtain⟨a,cap,rfl,h1,h2,h3,hnn,hp⟩:=hu;cases a with
 | none=>
  obtain rfl:=hnn rfl;obtain rfl:n=0:=by omega
  obtain rfl:cs=[]:=List.eq_nil_of_length_eq_zero (by omega);clear hp hnn h1;go_enter Tryz.func103,Tryz.ntmps103;go_wp2;exact bodyPost_ret (v:=.slice none 0 0) (by simp[results,Tryz.results103,go_sem]) rfl ⟨_,rfl,World.ownsRow_nil _ _ _ _,Below.refl _ _⟩
 | some ad=>
  have Hu:=Lib.hid (show Reads (w.alloc (.cells #[] 167)) 2 (.slice (some ad) n cap) n cs from Reads.below ⟨some ad,cap,rfl,h1,h2,h3,hnn,hp⟩ (Bel.new _ _));have Hone:=Lib.hid hone;have Hoe:=Lib.hid (own_empty w 167 2);clear hp hnn h1 hone;go_enter Tryz.func103,Tryz.ntmps103
  go_wp2_with((with_reducible refine wpList_append_reads (o:=⟨some 7,.call {callee:=.builtin .append,args:=#[.tmp 5,.tmp 6],argTypes:=#[26,26]},_,_,_,none⟩) rfl _ _ 26 rfl 167 i0 (.agg #[.string ByteArray.empty,.int .u32 0]) 2 24 Tryz.underlying26 hi hz0 hz1 hz2 ?_ ?_ _ 0 [] ?_ Hoe.out _ n cs ?_ Hu.out Hone.out ?_ ?_ ?_);rfl;decide;rfl;rfl;(unfold maxLen;omega);omega;intro v1 w1 o1 g1)
  have hx:w1.ownsRow w.heap.size 167 2 v1 n cs:=by
   have:=own_from o1 (B:=w.heap.size) (fun g e=>by
    rcases g1.2 g e with h'|h'
    ·cases h';exact Nat.le_refl _
    ·simp at h';omega)
   simpa using this
  have hbw:Below w.heap.size w w1:=(Bel.new w (.cells #[] 167)).grown g1.1 (by simp) (fun g e=>by cases e;exact Nat.le_refl _);exact bodyPost_ret (v:=v1) (by simp[results,Tryz.results103,go_sem]) rfl ⟨_,rfl,hx,hbw⟩
structure ImgOwn (w:World) (B:Nat) (vc vj vd vn:Value) (m:Img):Prop where
 c:w.ownsRow B 106 2 vc m.code.length (encI m.code)
 j:w.ownsRow B 25 1 vj m.js.length (encN .u32 m.js)
 d:w.ownsRow B 5 1 vd m.data.length (encN .u8 m.data)
 n:w.ownsRow B 167 2 vn m.lx.length (encX m.lx)
theorem ImgOwn.below {w w':World} {B:Nat} {vc vj vd vn:Value} {m:Img} (h:ImgOwn w B vc vj vd vn m) (hb:Below w.heap.size w w'):ImgOwn w' B vc vj vd vn m:=
 ⟨own_below h.c hb,own_below h.j hb,own_below h.d hb,own_below h.n hb⟩
theorem ImgOwn.at {w w0:World} {B:Nat} {vc vj vd vn xc xj xd xn:Value} {m:Img} (h:ImgOwn w B vc vj vd vn m) (h0:ImgAt w0 xc xj xd xn m):ImgAt w vc vj vd vn m:=
 ⟨⟨Reads.own h.c (by decide),h0.c.2⟩,⟨Reads.own h.j (by decide),h0.j.2⟩,⟨Reads.own h.d (by decide),h0.d.2⟩,⟨Reads.own h.n (by decide),h0.n.2⟩,h0.z,h0.s⟩
structure Small (m:Img):Prop where
 c:m.code.length≤16384
 j:m.js.length≤16384
 d:m.data.length≤65536
 n:m.lx.length≤64
theorem checkI_ok {m:Img} (h:checkI m=0):m.code.length≤16384∧firstBad m.code=0∧m.js.length≤16384∧stackN m.stack=true∧roomN m≤65536∧m.lx.length≤64∧namesN m.lx=true:=by
 by_cases h1:16384<m.code.length
 ·rw[checkI_1 h1]at h;cases h
 by_cases h2:firstBad m.code=0
 case neg=>rw[checkI_2 h1 h2]at h;exact absurd h h2
 by_cases h3:16384<m.js.length
 ·rw[checkI_3 h1 h2 h3]at h;cases h
 by_cases h4:stackN m.stack=false∨65536<roomN m
 ·rw[checkI_4 h1 h2 h3 h4]at h;cases h
 have h5:stackN m.stack=true:=by
  cases hs:stackN m.stack with
  | true=>rfl
  | false=>exact absurd (.inl hs) h4
 have h6:¬65536<roomN m:=fun h'=>h4 (.inr h');by_cases h7:64<m.lx.length
 ·rw[checkI_5 h1 h2 h3 h5 h6 h7]at h;cases h
 rw[checkI_6 h1 h2 h3 h5 h6 h7]at h;cases hn:namesN m.lx with
 | true=>exact⟨by omega,h2,by omega,h5,by omega,by omega,rfl⟩
 | false=>rw[hn]at h;cases h
theorem zero28 (w:World):(zeroValue 28).run Tryz.prog w=.ok (.agg #[.slice none 0 0,.slice none 0 0,.slice none 0 0,.int .u32 0,.int .u32 0,.slice none 0 0]) w:=by kernel_rfl
def zImg:Array Value:=#[.slice none 0 0,.slice none 0 0,.slice none 0 0,.int .u32 0,.int .u32 0,.slice none 0 0]
structure CopI (w W:World) (cs:Array Value):Prop where
 a:W.heap[w.heap.size]?=some (.cells cs 28 (0,0))
 b:W.heap[w.heap.size+1]?=some (.cells zImg 28 (0,0))
 bel:Below w.heap.size w W
theorem CopI.lt {w W:World} {cs:Array Value} (h:CopI w W cs):w.heap.size+1<W.heap.size:=(Array.getElem?_eq_some_iff.1 h.b).1
theorem CopI.call {w W W':World} {cs:Array Value} (h:CopI w W cs) (hb:Below W.heap.size W W'):CopI w W' cs:=
 ⟨(hb.block _ (by have:=h.lt;omega)).trans h.a,(hb.block _ h.lt).trans h.b,Bel.tr h.bel hb⟩
theorem CopI.set {w W:World} {cs:Array Value} (h:CopI w W cs) (i:Nat) (v:Value) (cs':Array Value) (he:cs'=cs.setIfInBounds i v):CopI w (W.setCell ⟨w.heap.size,i,none⟩ v) cs':=by
 subst he;exact⟨heap_setCell_same _ _ _ _ _ _ h.a,(heap_setCell_other _ _ _ _ (by show w.heap.size+1≠w.heap.size;omega)).trans h.b,h.bel.setCell (p:=⟨w.heap.size,i,none⟩) (Nat.le_refl _) v⟩
theorem CopI.cell {w W:World} {cs:Array Value} (h:CopI w W cs) (i:Nat) (v:Value) (he:cs[i]?=some v):W.cell? ⟨w.heap.size,i,none⟩=some v:=(cell_of_row _ _ _ _ _ _ h.a).trans he
theorem CopI.free {w W:World} {cs:Array Value} (h:CopI w W cs) (i:Nat):W.frozen? ⟨w.heap.size,i,none⟩=false:=frozen_of_row _ _ _ _ _ h.a
theorem own_past {w W:World} {B e sz n i:Nat} {v u:Value} {xs:List Value} (h:W.ownsRow B e sz v n xs) (hB:w.heap.size+2≤B):(W.setCell ⟨w.heap.size,i,none⟩ u).ownsRow B e sz v n xs:=
 ownsRow_setCell_other h (fun e=>by have:=(h.lt _ e).1;simp at this;omega) u
theorem info28:(Tryz.prog.info? 28).map (·.size)=some 6:=by kernel_rfl
theorem below_setRowB (w:World) {B:Nat} (g:Nat) (cs:Array Value) (h:B≤g):Below B w (w.setRow g cs):=
 ⟨rfl,rfl,rfl,by simp,fun k hk=>setRow_other _ _ _ _ (by omega)⟩
theorem own_row {w W:World} {e sz n:Nat} {v:Value} {xs:List Value} {cs:Array Value} (h:W.ownsRow (w.heap.size+2) e sz v n xs):(W.setRow (w.heap.size+1) cs).ownsRow w.heap.size e sz v n xs:=by
 obtain⟨hl,h⟩:=h;rcases h with h|⟨g,cap,cur,hv,hb,hg,rest⟩
 ·exact⟨hl,.inl h⟩
 ·exact⟨hl,.inr ⟨g,cap,cur,hv,by omega,(setRow_other _ _ _ _ (by omega)).trans hg,rest⟩⟩
theorem copied_any (vc vj vd vn:Value) (m:Img) (hs:Small m) (w:World) (h:ImgAt w vc vj vd vn m) :
 Calls Tryz.prog 57 #[.agg #[vc,vj,vd,.int .u32 m.zero,.int .u32 m.stack,vn]] w fun e w'=>∃uc uj ud un,e=.returned (.agg #[uc,uj,ud,.int .u32 m.zero,.int .u32 m.stack,un])∧ImgOwn w' w.heap.size uc uj ud un m∧Below w.heap.size w w':=by
 have hz:=zero28;have H:=Lib.hid h;obtain⟨av,cv,hvc⟩:∃a c,vc=.slice a m.code.length c:=by obtain⟨a,c,h,_⟩:=h.c.opened;exact⟨a,c,h⟩
 obtain⟨aj,cj,hvj⟩:∃a c,vj=.slice a m.js.length c:=by obtain⟨a,c,h,_⟩:=h.j.1;exact⟨a,c,h⟩
 obtain⟨ad,cd,hvd⟩:∃a c,vd=.slice a m.data.length c:=by obtain⟨a,c,h,_⟩:=h.d.1;exact⟨a,c,h⟩
 obtain⟨an,cn,hvn⟩:∃a c,vn=.slice a m.lx.length c:=by obtain⟨a,c,h,_⟩:=h.n.1;exact⟨a,c,h⟩
 subst hvc hvj hvd hvn;clear h;obtain⟨W0,hW0⟩:∃W0,W0=(w.alloc (.cells #[.slice av m.code.length cv,.slice aj m.js.length cj,.slice ad m.data.length cd,.int .u32 m.zero,.int .u32 m.stack,.slice an m.lx.length cn] 28)).alloc (.cells #[.slice none 0 0,.slice none 0 0,.slice none 0 0,.int .u32 0,.int .u32 0,.slice none 0 0] 28):=⟨_,rfl⟩
 have I0:=Lib.hid (show CopI w W0 #[.slice av m.code.length cv,.slice aj m.js.length cj,.slice ad m.data.length cd,.int .u32 m.zero,.int .u32 m.stack,.slice an m.lx.length cn]from by
  refine⟨by rw[hW0];exact(Below.heap_alloc _ _ _ (by simp)).trans (heap_alloc_new w _),?_,by rw[hW0];exact Bel.al (Bel.new _ _) _⟩;rw[hW0];have:=heap_alloc_new (w.alloc (.cells #[.slice av m.code.length cv,.slice aj m.js.length cj,.slice ad m.data.length cd,.int .u32 m.zero,.int .u32 m.stack,.slice an m.lx.length cn] 28)) (.cells zImg 28)
  rwa [World.size_alloc]at this)
 have hs2:=Lib.hid (show w.heap.size+2≤W0.heap.size from I0.out.lt);go_enter Tryz.func57,Tryz.ntmps57;go_wp2_with fail;rw[←hW0];clear hW0;refine(cloneI_any (.slice av m.code.length cv) m.code.length (encI m.code) (by have:=hs.c;omega) (encI_one _) _ (H.out.c.below I0.out.bel).1).mono ?_;rintro e w1⟨u1,rfl,o1,hb1⟩;obtain⟨a1,c1,rfl,-,-,-⟩:=own_sl o1;have J:=I0.out.call hb1;have J':=Lib.hid (J.set 0 (.slice a1 m.code.length c1) #[.slice a1 m.code.length c1,.slice aj m.js.length cj,.slice ad m.data.length cd,.int .u32 m.zero,.int .u32 m.stack,.slice an m.lx.length cn] rfl);have r1:=J.cell 0 _ rfl;have r2:=J.free 0;have P1:=Lib.hid (own_past (w:=w) (i:=0) (u:=(.slice a1 m.code.length c1)) (own_from (own_base o1) (B:=w.heap.size+2) (fun g e=>by have:=(o1.lt g e).1;have:=I0.out.lt;omega)) (Nat.le_refl _));clear o1 hb1 J;have r3:=(J'.out.cell 1 _ rfl);obtain⟨W1,hW1⟩:∃W1,W1=w1.setCell ⟨w.heap.size,0,none⟩ (.slice a1 m.code.length c1):=⟨_,rfl⟩;rw[←hW1]at J' P1;have I1:=J';go_wp2_with fail;rw[←hW1];clear hW1 r1 r2 r3 J';refine(cloneW_any (.slice aj m.js.length cj) m.js.length (encN .u32 m.js) (by have:=hs.j;omega) (encN_one _ _) _ (H.out.j.below I1.out.bel).1).mono ?_;rintro e w2⟨u2,rfl,o2,hb2⟩;obtain⟨a2,c2,rfl,-,-,-⟩:=own_sl o2;have J:=I1.out.call hb2;have J':=Lib.hid (J.set 1 (.slice a2 m.js.length c2) #[.slice a1 m.code.length c1,.slice a2 m.js.length c2,.slice ad m.data.length cd,.int .u32 m.zero,.int .u32 m.stack,.slice an m.lx.length cn] rfl);have r1:=J.cell 1 _ rfl;have r2:=J.free 1;have P2:=Lib.hid (own_past (w:=w) (i:=1) (u:=(.slice a2 m.js.length c2)) (own_from (own_base o2) (B:=w.heap.size+2) (fun g e=>by have:=(o2.lt g e).1;have:=I1.out.lt;omega)) (Nat.le_refl _));have P1:=Lib.hid (own_past (w:=w) (i:=1) (u:=(.slice a2 m.js.length c2)) (own_below P1.out hb2) (Nat.le_refl _));clear o2 hb2 J;have r3:=(J'.out.cell 2 _ rfl);obtain⟨W2,hW2⟩:∃W2,W2=w2.setCell ⟨w.heap.size,1,none⟩ (.slice a2 m.js.length c2):=⟨_,rfl⟩;rw[←hW2]at J' P1 P2;have I2:=J';go_wp2_with fail;rw[←hW2];clear hW2 r1 r2 r3 J';refine(cloneB_any (.slice ad m.data.length cd) m.data.length (encN .u8 m.data) (by have:=hs.d;omega) (encN_one _ _) _ (H.out.d.below I2.out.bel).1).mono ?_;rintro e w3⟨u3,rfl,o3,hb3⟩;obtain⟨a3,c3,rfl,-,-,-⟩:=own_sl o3;have J:=I2.out.call hb3;have J':=Lib.hid (J.set 2 (.slice a3 m.data.length c3) #[.slice a1 m.code.length c1,.slice a2 m.js.length c2,.slice a3 m.data.length c3,.int .u32 m.zero,.int .u32 m.stack,.slice an m.lx.length cn] rfl);have r1:=J.cell 2 _ rfl;have r2:=J.free 2;have P3:=Lib.hid (own_past (w:=w) (i:=2) (u:=(.slice a3 m.data.length c3)) (own_from (own_base o3) (B:=w.heap.size+2) (fun g e=>by have:=(o3.lt g e).1;have:=I2.out.lt;omega)) (Nat.le_refl _));have P1:=Lib.hid (own_past (w:=w) (i:=2) (u:=(.slice a3 m.data.length c3)) (own_below P1.out hb3) (Nat.le_refl _));have P2:=Lib.hid (own_past (w:=w) (i:=2) (u:=(.slice a3 m.data.length c3)) (own_below P2.out hb3) (Nat.le_refl _));clear o3 hb3 J;have r3:=(J'.out.cell 5 _ rfl);obtain⟨W3,hW3⟩:∃W3,W3=w3.setCell ⟨w.heap.size,2,none⟩ (.slice a3 m.data.length c3):=⟨_,rfl⟩;rw[←hW3]at J' P1 P2 P3;have I3:=J';go_wp2_with fail;rw[←hW3];clear hW3 r1 r2 r3 J';refine(cloneX_any (.slice an m.lx.length cn) m.lx.length (encX m.lx) (by have:=hs.n;omega) (encX_one _) _ (H.out.n.below I3.out.bel).1).mono ?_;rintro e w4⟨u4,rfl,o4,hb4⟩;obtain⟨a4,c4,rfl,-,-,-⟩:=own_sl o4;have J:=I3.out.call hb4;have J':=Lib.hid (J.set 5 (.slice a4 m.lx.length c4) #[.slice a1 m.code.length c1,.slice a2 m.js.length c2,.slice a3 m.data.length c3,.int .u32 m.zero,.int .u32 m.stack,.slice a4 m.lx.length c4] rfl);have r1:=J.cell 5 _ rfl;have r2:=J.free 5;have P4:=Lib.hid (own_past (w:=w) (i:=5) (u:=(.slice a4 m.lx.length c4)) (own_from (own_base o4) (B:=w.heap.size+2) (fun g e=>by have:=(o4.lt g e).1;have:=I3.out.lt;omega)) (Nat.le_refl _));have P1:=Lib.hid (own_past (w:=w) (i:=5) (u:=(.slice a4 m.lx.length c4)) (own_below P1.out hb4) (Nat.le_refl _));have P2:=Lib.hid (own_past (w:=w) (i:=5) (u:=(.slice a4 m.lx.length c4)) (own_below P2.out hb4) (Nat.le_refl _));have P3:=Lib.hid (own_past (w:=w) (i:=5) (u:=(.slice a4 m.lx.length c4)) (own_below P3.out hb4) (Nat.le_refl _));clear o4 hb4 J;have s0:=J'.out.cell 0 _ rfl;have s1:=J'.out.cell 1 _ rfl;have s2:=J'.out.cell 2 _ rfl;have s3:=J'.out.cell 3 _ rfl;have s4:=J'.out.cell 4 _ rfl;have s5:=J'.out.cell 5 _ rfl;have hB4:=J'.out.b;have HJ:=Lib.hid J'.out;obtain⟨W4,hW4⟩:∃W4,W4=w4.setCell ⟨w.heap.size,5,none⟩ (.slice a4 m.lx.length c4):=⟨_,rfl⟩;have HB4:=Lib.hid hB4;clear hB4 hW4 J'
 go_wp2_with(((with_reducible refine wpList_store_row (o:=⟨none,.store 28 (.tmp 2) (.tmp 19),_,_,_,none⟩) rfl 28 _ _ rfl (w.heap.size+1) #[.slice a1 m.code.length c1,.slice a2 m.js.length c2,.slice a3 m.data.length c3,.int .u32 m.zero,.int .u32 m.stack,.slice a4 m.lx.length c4] ?_ ?_ 28 _ HB4.out ?_ ?_ ?_ ?_);rfl;rfl;exact info28;rfl;(simp[Value.oneCell'])))
 refine bodyPost_ret (v:=.agg #[.slice a1 m.code.length c1,.slice a2 m.js.length c2,.slice a3 m.data.length c3,.int .u32 m.zero,.int .u32 m.stack,.slice a4 m.lx.length c4]) (results_cell_row Tryz.results57 _ _ (w.heap.size+1) 28 _ (0,0) _ rfl (setRow_heap _ _ _ _ _ _ HB4.out) Tryz.underlying28 rfl info28) rfl ⟨_,_,_,_,rfl,?_,?_⟩
 ·exact⟨own_row P1.out,own_row P2.out,own_row P3.out,own_row P4.out⟩
 ·exact HJ.out.bel.trans (below_setRowB _ _ _ (by omega))
theorem FindBad.ne {code:List (Nat×Nat)} {js ats:List Nat} {i c:Nat} (h:FindBad code js ats i c):c≠0:=by
 cases h with
 | enc h=>exact h
 | first _ _=>decide
 | fault _ _ i _ _ hf=>exact hf
 | jump _ _ _ _ _ _ _=>decide
 | name _ _ _ _ _ _ _ _=>decide
theorem FindBad.not_ok {code:List (Nat×Nat)} {js ats ats':List Nat} {i c:Nat} (h:FindBad code js ats i c) (k:FindOk code js ats') (ha:ats=[]∨ats=ats'):False:=by
 cases h with
 | enc h=>exact h k.he
 | first _ h=>exact h k.h3
 | fault _ _ i hi _ hf=>exact hf (k.hall i hi)
 | jump _ _ _ i hi _ hb=>have:=k.hg i hi;rw[hb]at this;cases this
 | name _ _ _ _ i hi _ hb=>
  rcases ha with rfl|rfl
  ·simp at hi
  ·have:=k.hn i hi;rw[hb]at this;cases this
def FoundAt (code:List (Nat×Nat)) (js:List Nat) (W:World) (B b:Nat):Prop:=
 ∃vp vo vt us,PAt W B b vp vo vt (psTo code code.length) (ofTo code code.length) us (aimTo (ofTo code code.length) js (psTo code code.length).length js.length)
theorem FoundAt.below {code:List (Nat×Nat)} {js:List Nat} {W W':World} {B b:Nat} (h:FoundAt code js W B b) (hb:Below W.heap.size W W'):FoundAt code js W' B b:=by
 obtain⟨vp,vo,vt,us,hA⟩:=h;exact⟨vp,vo,vt,us,hA.below hb⟩
theorem find_ok {w:World} (vc vj vn:Value) (code:List (Nat×Nat)) (js ats:List Nat) (hok:FindOk code js ats) (hc:Instrs w vc code) (hj:RowU w w.heap.size vj js) (hn:NamesU w w.heap.size vn ats) :
 Calls Tryz.prog 58 #[vc,vj,vn] w fun e w'=>∃b B,e=.returned (.tuple #[.pointer (some ⟨b,0,none⟩),.int .i64 0,.int .i64 0])∧Below w.heap.size w w'∧w.heap.size≤B∧B≤w'.heap.size∧FoundAt code js w' B b:=by
 refine(find_any vc vj vn code js ats hc hj hn).mono ?_;rintro e w'⟨hb,⟨i,c,rfl,hbad⟩|⟨b,B,rfl,-,h1,h2,vp,vo,vt,us,tag,hA⟩⟩
 ·exact(hbad.not_ok hok (.inr rfl)).elim
 ·exact⟨b,B,rfl,hb,h1,h2,vp,vo,vt,us,hA.at_⟩
theorem namesU_nil (w:World) (B:Nat):NamesU w B (.slice none 0 0) []:=⟨none,0,rfl,Nat.le_refl _,Nat.zero_le _,fun k=>by simp,fun h=>absurd h (Nat.lt_irrefl _)⟩
structure GraphAt (W:World) (B g b:Nat) (uc uj:Value) (code:List (Nat×Nat)) (js:List Nat):Prop where
 c0:W.cell? ⟨g,0,none⟩=some uc
 c1:W.cell? ⟨g,1,none⟩=some uj
 c2:W.cell? ⟨g,2,none⟩=some (.pointer (some ⟨b,0,none⟩))
 hB:B≤g
 oc:W.ownsRow B 106 2 uc code.length (encI code)
 oj:W.ownsRow B 25 1 uj js.length (encN .u32 js)
 p:∃B',B≤B'∧FoundAt code js W B' b
theorem GraphAt.below {W W':World} {B g b:Nat} {uc uj:Value} {code:List (Nat×Nat)} {js:List Nat} (h:GraphAt W B g b uc uj code js) (hb:Below W.heap.size W W'):GraphAt W' B g b uc uj code js:=by
 have hl:=World.block_lt_of_cell? _ _ h.c0;obtain⟨B',h1,h2⟩:=h.p;exact⟨(hb.cell (p:=⟨g,0,none⟩) hl).trans h.c0,(hb.cell (p:=⟨g,1,none⟩) hl).trans h.c1,(hb.cell (p:=⟨g,2,none⟩) hl).trans h.c2,h.hB,own_below h.oc hb,own_below h.oj hb,B',h1,h2.below hb⟩
theorem run_b504 (a a':Option Addr) (n c n' c':Nat) (p:Option Addr) (w:World):(Instr.build 215 #[(0,.slice a n c),(1,.slice a' n' c'),(2,.pointer p)]).run Tryz.prog w=.ok (.agg #[.slice a n c,.slice a' n' c',.pointer p]) w:=by kernel_rfl
theorem cells_new3 (w:World) (a b c:Value) (t:TypeId):(w.alloc (.cells #[a,b,c] t)).cell? ⟨w.heap.size,0,none⟩=some a∧(w.alloc (.cells #[a,b,c] t)).cell? ⟨w.heap.size,1,none⟩=some b∧(w.alloc (.cells #[a,b,c] t)).cell? ⟨w.heap.size,2,none⟩=some c:=⟨by simp[go_sem],by simp[go_sem],by simp[go_sem]⟩
theorem found_any {w:World} (vc vj:Value) (code:List (Nat×Nat)) (js:List Nat) (hok:FindOk code js []) (hl:code.length≤16384) (hjl:js.length≤16384) (hc:Instrs w vc code) (hj:Words w vj js) :
 Calls Tryz.prog 109 #[vc,vj] w fun e w'=>∃g b uc uj,e=.returned (.tuple #[.pointer (some ⟨g,0,none⟩),.int .i64 0,.int .i64 0])∧Below w.heap.size w w'∧GraphAt w' w.heap.size g b uc uj code js:=by
 have hb504:=run_b504;have HF:=Lib.hid (find_ok vc vj (.slice none 0 0) code js [] hok hc hj.rowu (namesU_nil _ _));have HC:=Lib.hid hc;have HJ:=Lib.hid hj;clear hc hj;go_enter Tryz.func109,Tryz.ntmps109;go_wp2_with fail;refine HF.out.mono ?_;rintro e w1⟨b,B,rfl,hb1,hB1,hB2,hA⟩;have Hb1:=Lib.hid hb1;have HA:=Lib.hid hA;have HcI:=Lib.hid (cloneI_any vc code.length (encI code) (by omega) (encI_one _) w1 (HC.out.below hb1).1);clear hb1 hA HF;go_wp2_with fail;refine HcI.out.mono ?_;rintro e w2⟨uc,rfl,oc,hb2⟩;obtain⟨ac,cc,rfl,-,-,-⟩:=own_sl oc;have Hb2:=Lib.hid (Bel.tr Hb1.out hb2);have HA2:=Lib.hid (HA.out.below hb2);have OC:=Lib.hid oc;have hs1:=Hb1.out.size;have hs2:=hb2.size;have HcW:=Lib.hid (cloneW_any vj js.length (encN .u32 js) (by omega) (encN_one _ _) w2 (HJ.out.below Hb2.out).1);clear oc hb2 HcI;go_wp2_with fail;refine HcW.out.mono ?_;rintro e w3⟨uj,rfl,oj,hb3⟩;obtain⟨aj,cj,rfl,-,-,-⟩:=own_sl oj;have Hb3:=Lib.hid (Bel.tr Hb2.out hb3);have HA3:=Lib.hid (HA2.out.below hb3);have OC3:=Lib.hid (own_below OC.out hb3);have OJ:=Lib.hid oj;have hs3:=hb3.size;clear oj hb3 HcW;go_wp2_with fail;have hbn:=Bel.new w3 (.cells #[.slice ac code.length cc,.slice aj js.length cj,.pointer (some ⟨b,0,none⟩)] 215);have hcn:=cells_new3 w3 (.slice ac code.length cc) (.slice aj js.length cj) (.pointer (some ⟨b,0,none⟩)) 215
 exact bodyPost_ret (v:=.tuple #[.pointer (some ⟨w3.heap.size,0,none⟩),.int .i64 0,.int .i64 0]) (by simp[results,Tryz.results109,go_sem]) rfl
  ⟨_,b,_,_,rfl,Bel.tr Hb3.out hbn,hcn.1,hcn.2.1,hcn.2.2,by omega,own_below (own_from (own_base OC3.out) (fun g e=>by have:=(OC.out.lt g e).1;omega)) hbn,own_below (own_from (own_base OJ.out) (fun g e=>by have:=(OJ.out.lt g e).1;omega)) hbn,B,hB1,HA3.out.below hbn⟩
def opAt (code:List (Nat×Nat)) (i:Nat):Nat:=(code.getD i (0,0)).1
def argAt (code:List (Nat×Nat)) (i:Nat):Nat:=(code.getD i (0,0)).2
theorem GraphAt.code {W:World} {B g b:Nat} {uc uj:Value} {code:List (Nat×Nat)} {js:List Nat} (h:GraphAt W B g b uc uj code js) {i:Nat} (hi:i<code.length) :
 ∃q c,uc=.slice (some ⟨q,0,none⟩) code.length c∧q<W.heap.size∧W.cell? ⟨q,i*2,none⟩=some (.int .u8 (opAt code i))∧W.cell? ⟨q,i*2+1,none⟩=some (.int .u32 (argAt code i)):=by
 obtain⟨q,c,rfl,-,hq⟩:=own_start h.oc (by omega);have hl:=encI_length code;refine⟨q,c,rfl,hq,?_,?_⟩
 ·rw[h.oc.cellAt _ (by omega)];exact encI_op code i hi
 ·rw[h.oc.cellAt _ (by omega)];exact encI_arg code i hi
theorem ginfo_any {w:World} {B g b:Nat} {uc uj:Value} {code:List (Nat×Nat)} {js:List Nat} (h:GraphAt w B g b uc uj code js) (i:Nat) (hi:i<code.length) (ho:opAt code i<256) :
 Calls Tryz.prog 169 #[.pointer (some ⟨g,0,none⟩),.int .i64 i] w fun e w'=>e=.returned (rowVal (opAt code i))∧Below w.heap.size w w':=by
 obtain⟨q,c,rfl,hq,h1,-⟩:=h.code hi;have hz:=zero26;unfold zeroRow at hz;have hc0:=h.c0;have hgl:g<w.heap.size:=World.block_lt_of_cell? _ _ hc0;have hI:=fun W=>info_any (opAt code i) ho W;unfold rowVal rowCells at hI⊢;generalize opAt code i=o at*;have HI:=Lib.hid hI;have hb0:=Lib.hid (Bel.new w (.cells #[.string ⟨#[]⟩,.int .i64 0,.int .u32 0,.int .i64 0,.int .i64 0,.int .u8 0] 208));have hii:(i:Int)<(code.length:Int):=by omega
 have hi0:(0:Int)≤(i:Int):=by omega
 have hne1:w.heap.size≠g:=by omega
 have hne2:w.heap.size≠q:=by omega
 generalize kindOf o=K at*;generalize isOp o=bb at*;generalize wordOf o=wd at*;generalize widthOf o=wi at*;generalize mostOf o=mo at*;generalize takesOf o=ta at*;generalize givesOf o=gi at*;clear h hI;go_enter Tryz.func169,Tryz.ntmps169;go_wp2_with fail;refine(HI.out _).mono ?_;rintro e w1⟨rfl,hb1⟩;have HB:=Lib.hid (Bel.tr hb0.out hb1);have hs1:=hb1.size;simp only[World.size_alloc]at hs1;have hB0:=(hb1.block w.heap.size (by simp)).trans (heap_alloc_new w _);have hlt:w.heap.size<w1.heap.size:=by omega
 obtain⟨R,hR⟩:∃R:Array Value,R=#[.string ⟨wd.toArray⟩,.int .i64 wi,.int .u32 mo,.int .i64 ta,.int .i64 gi,.int .u8 K]:=⟨_,rfl⟩;have HB1:=Lib.hid (show(w1.alloc (.cells #[.string ⟨wd.toArray⟩,.int .i64 wi,.int .u32 mo,.int .i64 ta,.int .i64 gi,.int .u8 K] 208)).heap[w.heap.size]?=_ from(Below.heap_alloc _ _ _ hlt).trans hB0);clear hb1 hc0 h1 hB0 hR
 go_wp2_with(((with_reducible refine wpList_store_row (o:=⟨none,.store 208 (.tmp 4) (.tmp 19),_,_,_,none⟩) rfl 208 _ _ rfl w.heap.size #[.string ⟨wd.toArray⟩,.int .i64 wi,.int .u32 mo,.int .i64 ta,.int .i64 gi,.int .u8 K] ?_ ?_ 208 _ HB1.out ?_ ?_ ?_ ?_);rfl;rfl;exact info26;rfl;(simp[Value.oneCell'])))
 exact bodyPost_ret (v:=.agg #[.string ⟨wd.toArray⟩,.int .i64 wi,.int .u32 mo,.int .i64 ta,.int .i64 gi,.int .u8 K]) (results_cell_row Tryz.results169 _ _ w.heap.size 208 _ (0,0) _ rfl (setRow_heap _ _ _ _ _ _ HB1.out) Tryz.underlying208 rfl info26) rfl ⟨rfl,(Bel.al HB.out _).trans (below_setRowB _ _ _ (Nat.le_refl _))⟩
def nextN (code:List (Nat×Nat)) (js:List Nat) (i:Nat):List Nat:=
 if kindOf (opAt code i)=1∨kindOf (opAt code i)=6∨kindOf (opAt code i)=5 then[i+1]
 else if kindOf (opAt code i)=2 then(if i+1=argAt code i then[i+1]else[min (i+1) (argAt code i),max (i+1) (argAt code i)])
 else if kindOf (opAt code i)=3 then[argAt code i]
 else if kindOf (opAt code i)=4 then tgtsAt (psTo code code.length).length (aimTo (ofTo code code.length) js (psTo code code.length).length js.length) (ofN (ofTo code code.length) i)
 else[]
theorem run_bs23_2 (x y:Int) (w:World):(Instr.buildSlice 23 2 #[(0,.int .u32 x),(1,.int .u32 y)]).run Tryz.prog w=.ok (.slice (some ⟨w.heap.size,0,none⟩) 2 2) (w.alloc (.cells #[.int .u32 x,.int .u32 y] 25)):=by kernel_rfl
theorem run_bs23_1 (x:Int) (w:World):(Instr.buildSlice 23 1 #[(0,.int .u32 x)]).run Tryz.prog w=.ok (.slice (some ⟨w.heap.size,0,none⟩) 1 1) (w.alloc (.cells #[.int .u32 x] 25)):=by kernel_rfl
theorem compact2_ne (g c:Nat) (x y:Int) (hxy:x≠y) (w:World) (h0:w.cell? ⟨g,0,none⟩=some (.int .u32 x)) (h1:w.cell? ⟨g,1,none⟩=some (.int .u32 y)) :
 Calls Tryz.prog 191 #[.slice (some ⟨g,0,none⟩) 2 c] w fun e w'=>e=.returned (.slice (some ⟨g,0,none⟩) 2 c)∧∃n,w'=w.drewN n:=by
 have hd:(y==x)=false:=by simp;omega
 have H0:=Lib.hid h0;have H1:=Lib.hid h1;clear h0 h1;go_enter Tryz.func191,Tryz.ntmps191;go_wp2_with fail
 go_loopw[3] (fun i wr=>∃k:Nat,1≤k∧k≤2∧i=.int .i64 k∧∃n,wr=w.drewN n) (fun i _=>2 - (intOf i).toNat)
 case atStart=>exact⟨1,by omega,by omega,rfl,0,rfl⟩
 case round=>
  obtain⟨k,hk1,hk2,rfl,n,rfl⟩:=hrel;rcases(by omega:k=1∨k=2)with rfl|rfl
  ·have h0:=H0.out
   have h1:=H1.out;go_wp2_with fail
   go_quiet(fail)
   go_wp2
   go_roundw
   case rel=>exact⟨2,by omega,by omega,rfl,_,rfl⟩
   case measure=>simp[intOf]
  ·go_wp2
   go_ret;exact⟨rfl,n,rfl⟩
theorem compact2_eq (g c:Nat) (x:Int) (hc:2≤c) (w:World) (h0:w.cell? ⟨g,0,none⟩=some (.int .u32 x)) (h1:w.cell? ⟨g,1,none⟩=some (.int .u32 x)) (hf:w.frozen? ⟨g,1,none⟩=false) :
 Calls Tryz.prog 191 #[.slice (some ⟨g,0,none⟩) 2 c] w fun e w'=>e=.returned (.slice (some ⟨g,0,none⟩) 1 c)∧∃n,w'=(w.drewN n).setCell ⟨g,1,none⟩ (.int .u32 0):=by
 have hci:(2:Int)≤(c:Int):=by omega
 have hci1:(1:Int)≤(c:Int):=by omega
 have hc1:c≠1:=by omega
 have hcl:∀n,(Builtin.clear_ #[23] 0 #[.slice (some ⟨g,1,none⟩) 1 (c - 1)]).run Tryz.prog (w.drewN n)=.ok (.tuple #[]) ((w.drewN n).setCell ⟨g,1,none⟩ (.int .u32 0)):=by
  intro n
  have hq1:∀j,j<1→((w.drewN n).cell? ⟨g,1+j,none⟩).isSome=true:=by
   intro j hj;obtain rfl:j=0:=by omega
   show(w.cell? ⟨g,1,none⟩).isSome=true
   rw[h1];rfl
  have hq2:∀j,j<1→(w.drewN n).frozen? ⟨g,1+j,none⟩=false:=by
   intro j hj;obtain rfl:j=0:=by omega
   exact hf
  exact Lib.run_clear_slice (w.drewN n) 23 25 0 (.int .u32 0) Tryz.underlying23 (fun _=>by kernel_rfl) rfl rfl g 1 1 (c - 1) (by omega) hq1 hq2
 have h01:=h1;go_enter Tryz.func191,Tryz.ntmps191;go_wp2_with fail;refine wp_loop_rounds 1 ?_;rw[rounds_succ];go_wp2_with fail
 go_quiet(fail)
 go_wp2_with fail;refine wp_loop_rounds 1 ?_;rw[rounds_succ];go_wp2_with fail;go_ret;exact⟨rfl,_,rfl⟩
theorem own_new1 (w:World) (x:Nat) (y:Int) (h:y=(x:Int)):(w.alloc (.cells #[.int .u32 y] 25)).ownsRow w.heap.size 25 1 (.slice (some ⟨w.heap.size,0,none⟩) 1 1) 1 (encN .u32 [x]):=by
 subst h;exact⟨rfl,.inr ⟨w.heap.size,1,_,rfl,Nat.le_refl _,World.alloc_heap_new w _,Nat.le_refl _,by decide,rfl,rfl⟩⟩
theorem own_new2 (w:World) (x y:Nat) (c:Nat) (hc:c=2):(w.alloc (.cells #[.int .u32 (x:Int),.int .u32 (y:Int)] 25)).ownsRow w.heap.size 25 1 (.slice (some ⟨w.heap.size,0,none⟩) 2 2) 2 (encN .u32 [x,y]):=by
 exact⟨rfl,.inr ⟨w.heap.size,2,_,rfl,Nat.le_refl _,World.alloc_heap_new w _,Nat.le_refl _,by decide,rfl,rfl⟩⟩
theorem own_drewN {W:World} {B e sz n:Nat} {v:Value} {xs:List Value} (h:W.ownsRow B e sz v n xs) (k:Nat):(W.drewN k).ownsRow B e sz v n xs:=h
theorem own_cut1 {W:World} {B e g c:Nat} {x y:Value} (h:W.ownsRow B e 1 (.slice (some ⟨g,0,none⟩) 2 c) 2 [x,y]):W.ownsRow B e 1 (.slice (some ⟨g,0,none⟩) 1 c) 1 [x]:=by
 obtain⟨hl,h⟩:=h;rcases h with⟨hv,_⟩|⟨g',c',cur,hv,hb,hg,hn,hm,hcs,ht⟩
 ·cases hv
 ·cases hv
  refine⟨rfl,.inr ⟨g,c,cur,rfl,hb,hg,by omega,hm,hcs,?_⟩⟩;have:=congrArg (List.take 1) ht;rw[List.take_take]at this
  simpa using this
theorem FindOk.hof {code:List (Nat×Nat)} {js:List Nat} (h:FindOk code js []) (x:Nat) (hx:x<(ofTo code code.length).length):(ofTo code code.length).getD x 0<(psTo code code.length).length:=(tiles (code:=code) h.h3.2 _).lt x (by rw[←(tiles (code:=code) h.h3.2 code.length).ol];exact hx)
theorem FindOk.jl {code:List (Nat×Nat)} {js:List Nat} (h:FindOk code js []):js.length≤16384:=by
 have h2:=h.hg.le;rw[(tiles (code:=code) h.h3.2 code.length).ol]at h2;have:=encRes_short h.he;omega
theorem FindOk.rows {code:List (Nat×Nat)} {js:List Nat} (h:FindOk code js []) (j:Nat):((aimTo (ofTo code code.length) js (psTo code code.length).length js.length).getD j []).length≤16384:=by
 have h1:=aimTo_row_le (ofTo code code.length) js (psTo code code.length).length js.length j;have:=h.jl;omega
theorem field421 (s:ByteArray) (a b c d K:Int) (w:World):(Instr.field 208 (.agg #[.string s,.int .i64 a,.int .u32 b,.int .i64 c,.int .i64 d,.int .u8 K]) 5).run Tryz.prog w=.ok (.int .u8 K) w:=by kernel_rfl
theorem next_any {w:World} {B g b:Nat} {uc uj:Value} {code:List (Nat×Nat)} {js:List Nat} (h:GraphAt w B g b uc uj code js) (hok:FindOk code js []) (i:Nat) (hi:i<code.length) (hlt:∀k,(code.getD k (0,0)).1<256∧(code.getD k (0,0)).2<4294967296) :
 Calls Tryz.prog 170 #[.pointer (some ⟨g,0,none⟩),.int .i64 i] w fun e w'=>∃v,e=.returned v∧w'.ownsRow w.heap.size 25 1 v (nextN code js i).length (encN .u32 (nextN code js i))∧Below w.heap.size w w':=by
 have hfd:=field421;have hbs1:=run_bs23_1;have hbs2:=run_bs23_2;obtain⟨q,c,rfl,hq,h1,h2⟩:=h.code hi;have hcl:=encRes_short hok.he;have hc0:=h.c0;have hgl:g<w.heap.size:=World.block_lt_of_cell? _ _ hc0;have HG:=Lib.hid h;have HI:=Lib.hid (ginfo_any h i hi (hlt i).1);have hk:=kind_lt (opAt code i);have hai:argAt code i<4294967296:=(hlt i).2;obtain⟨L,hL⟩:∃L,L=nextN code js i:=⟨_,rfl⟩;rw[←hL];have HL:=Lib.hid hL;clear hL;unfold nextN at HL;unfold rowVal rowCells at HI;have hii:(i:Int)<(code.length:Int):=by omega
 have hi0:(0:Int)≤(i:Int):=by omega
 have hi14:(i:Int)<16384:=by omega
 generalize kindOf (opAt code i)=K at*;generalize argAt code i=a at*;generalize opAt code i=o at*;generalize wordOf o=wd at*;generalize widthOf o=wi at*;generalize mostOf o=mo at*;generalize takesOf o=ta at*;generalize givesOf o=gi at*;clear h;go_enter Tryz.func170,Tryz.ntmps170;go_wp2_with fail;refine HI.out.mono ?_;rintro e w1⟨rfl,hb1⟩;have Hb1:=Lib.hid hb1;clear hb1 HI hc0 h1 h2;rcases(by omega:K=1∨K=6∨K=5∨K=2∨K=3∨K=4∨(K=0∨K=7∨K=8))with rfl|rfl|rfl|rfl|rfl|rfl|hK
 case inr.inr.inr.inl=>
  by_cases he:i+1=a
  ·subst he
   have HL2:=Lib.hid (show L=[i+1]from by rw[HL.out,if_neg (by decide),if_pos rfl,if_pos rfl]);have hbn:=Bel.new w1 (.cells #[.int .u32 ((i:Int)+1),.int .u32 ((i:Int)+1)] 25);have hcn:=cells_new2 w1 (.int .u32 ((i:Int)+1)) (.int .u32 ((i:Int)+1)) 25;have Hcp:=Lib.hid (compact2_eq w1.heap.size 2 ((i:Int)+1) (Nat.le_refl _) _ hcn.1 hcn.2 (by simp[go_sem]));have Hbn:=Lib.hid (Bel.tr Hb1.out hbn);have Hown:=Lib.hid (own_new2 w1 (i+1) (i+1) 2 rfl);clear hbn hcn;go_wp2_with fail;refine Hcp.out.mono ?_;rintro e w2⟨rfl,n,rfl⟩;go_wp2;go_ret;refine⟨_,rfl,?_,(below_drewN Hbn.out n).setCell (p:=⟨w1.heap.size,1,none⟩) Hb1.out.size _⟩;rw[HL2.out];exact own_from (own_base (own_cut1 (y:=.int .u32 0) (own_drewN Hown.out n |>.stored 1 (.int .u32 0)).1)) (fun g e=>by cases e;exact Hb1.out.size)
  ·have hne:((i:Int)+1)≠(a:Int):=by omega
   obtain⟨x,y,hxy,hL3,hmin,hmax⟩:∃x y:Nat,x≠y∧L=[x,y]∧min ((i:Int)+1) (a:Int)=(x:Int)∧max ((i:Int)+1) (a:Int)=(y:Int):=by
    refine⟨min (i+1) a,max (i+1) a,by omega,?_,by omega,by omega⟩;rw[HL.out,if_neg (by decide),if_pos rfl,if_neg he]
   have HL3:=Lib.hid hL3;have Hmin:=Lib.hid hmin;have Hmax:=Lib.hid hmax;have hbn:=Bel.new w1 (.cells #[.int .u32 (x:Int),.int .u32 (y:Int)] 25);have hcn:=cells_new2 w1 (.int .u32 (x:Int)) (.int .u32 (y:Int)) 25;have Hcp:=Lib.hid (compact2_ne w1.heap.size 2 (x:Int) (y:Int) (by omega) _ hcn.1 hcn.2);have Hbn:=Lib.hid (Bel.tr Hb1.out hbn);have Hown:=Lib.hid (own_new2 w1 x y 2 rfl);clear hbn hcn hmin hmax hL3 hne;go_wp2_with fail;rw[Hmin.out,Hmax.out];refine Hcp.out.mono ?_;rintro e w2⟨rfl,n,rfl⟩;go_wp2;go_ret;refine⟨_,rfl,?_,below_drewN Hbn.out n⟩;rw[HL3.out];exact own_from (own_base (own_drewN Hown.out n)) (fun g e=>by cases e;exact Hb1.out.size)
 case inr.inr.inr.inr.inr.inl=>
  have HG1:=Lib.hid (HG.out.below Hb1.out);have hS0:=Lib.hid (show w1.drew.cell? ⟨g,2,none⟩=some (.pointer (some ⟨b,0,none⟩))∧Below w1.heap.size w1 w1.drew from⟨HG1.out.c2,(Below.refl _ _).drew⟩)
  have H1:=Lib.hid (fun (W:World) (hS:W.cell? ⟨g,2,none⟩=some (.pointer (some ⟨b,0,none⟩))∧Below w1.heap.size w1 W)=>(show Calls Tryz.prog 135 #[.pointer (some ⟨b,0,none⟩),.int .u32 (i:Int)] W fun e w'=>e=.returned (.int .i64 (ofN (ofTo code code.length) i))∧w'=W from by
   obtain⟨B',-,vp,vo,vt,us,hA⟩:=HG1.out.p
   exact(of_any (hA.below hS.2) i (by omega)).mono fun _ _ h=>⟨h.1,h.2.symm⟩))
  have H2:=Lib.hid (fun (W:World) (hS:W.cell? ⟨g,2,none⟩=some (.pointer (some ⟨b,0,none⟩))∧Below w1.heap.size w1 W)=>(show Calls Tryz.prog 192 #[.pointer (some ⟨b,0,none⟩),.int .i64 (ofN (ofTo code code.length) i)] W fun e w'=>∃v,e=.returned v∧w'.ownsRow W.heap.size 25 1 v L.length (encN .u32 L)∧(w'.cell? ⟨g,2,none⟩=some (.pointer (some ⟨b,0,none⟩))∧Below w1.heap.size w1 w')∧w1.heap.size≤W.heap.size from by
   obtain⟨B',-,vp,vo,vt,us,hA⟩:=HG1.out.p;refine(targets_any (hA.below hS.2) (aimTo_length _ _ _ _) hok.rows (ofN (ofTo code code.length) i)).mono ?_;rintro e w'⟨v,rfl,ho,hb⟩;have hLe:L=_:=HL.out;rw[if_neg (by decide),if_neg (by decide),if_neg (by decide),if_pos rfl]at hLe;rw[←hLe]at ho
   exact⟨v,rfl,ho,⟨(hb.cell (p:=⟨g,2,none⟩) (World.block_lt_of_cell? _ _ hS.1)).trans hS.1,Bel.tr hS.2 hb⟩,hS.2.size⟩))
  generalize ofN (ofTo code code.length) i=z at*;have hc2:=HG1.out.c2;go_wp2_with fail;clear hc2;have hwk:IntKind.u32.wrap (i:Int)=(i:Int):=u32_wrap i (by omega)
  go_region_held3(fun w'=>w'.cell? ⟨g,2,none⟩=some (.pointer (some ⟨b,0,none⟩))∧Below w1.heap.size w1 w')
   (first|assumption|exact hS0.out)
   (first|(go_at_call 135;refine(H1.out _ ?_).mono ?_;assumption;rintro e w5⟨rfl,hw5⟩;subst hw5)|(go_at_call 192;refine(H2.out _ ?_).mono ?_;assumption;rintro e w5⟨v,rfl,ho5,hS5,hsz5⟩)|fail)
  have HX:=Lib.hid (And.intro ho5 (And.intro hS5.2 hsz5));clear ho5 hS5 hsz5;go_wp2;go_ret;exact⟨v,rfl,own_from (own_base HX.out.1) (fun g e=>by have:=(HX.out.1.lt g e).1;have:=HX.out.2.2;have:=Hb1.out.size;simp at*;omega),Bel.tr Hb1.out HX.out.2.1⟩
 case inr.inr.inr.inr.inr.inr=>
  have HL2:=Lib.hid (show L=[]from by rcases hK with rfl|rfl|rfl<;>(rw[HL.out];rfl));rcases hK with rfl|rfl|rfl
  all_goals
   go_wp2_with fail;go_ret;exact⟨_,rfl,by rw[HL2.out];exact World.ownsRow_nil _ _ _ _,Hb1.out⟩
 case inr.inr.inr.inr.inl=>
  have HL2:=Lib.hid (show L=[a]from by rw[HL.out];rfl);go_wp2_with fail;go_ret;exact⟨_,rfl,by rw[HL2.out];exact own_from (own_base (own_new1 w1 a _ rfl)) (fun g e=>by cases e;exact Hb1.out.size),Bel.al Hb1.out _⟩
 all_goals
  have HL2:=Lib.hid (show L=[i+1]from by rw[HL.out];rfl);go_wp2_with fail;go_ret;exact⟨_,rfl,by rw[HL2.out];exact own_from (own_base (own_new1 w1 (i+1) _ (by omega))) (fun g e=>by cases e;exact Hb1.out.size),Bel.al Hb1.out _⟩
theorem meth_pop (a : Addr) (w : World) : (method 389 244 (.pointer (some a)) "Pop").run Tryz.prog w = .ok (223, .pointer (some a)) w := by kernel_rfl
theorem meth_push (a : Addr) (w : World) : (method 389 244 (.pointer (some a)) "Push").run Tryz.prog w = .ok (224, .pointer (some a)) w := by kernel_rfl
theorem meth_len0 (a : Addr) (w : World) : (method 389 244 (.pointer (some a)) "Len").run Tryz.prog w = ((do let r ← loadVar 245 a; pure (167, r)) : Sem (FuncId × Value)).run Tryz.prog w := by kernel_rfl
theorem meth_less0 (a : Addr) (w : World) : (method 389 244 (.pointer (some a)) "Less").run Tryz.prog w = ((do let r ← loadVar 245 a; pure (222, r)) : Sem (FuncId × Value)).run Tryz.prog w := by kernel_rfl
theorem meth_swap0 (a : Addr) (w : World) : (method 389 244 (.pointer (some a)) "Swap").run Tryz.prog w = ((do let r ← loadVar 245 a; pure (225, r)) : Sem (FuncId × Value)).run Tryz.prog w := by kernel_rfl
theorem load567 (a:Addr) (v:Value) (w:World) (h:w.cell? a=some v):(loadVar 245 a).run Tryz.prog w=.ok v w:=by
 simp[go_sem,h]
theorem meth_len (a : Addr) (v : Value) (w : World) (h : w.cell? a = some v) : (method 389 244 (.pointer (some a)) "Len").run Tryz.prog w = .ok (167, v) w := by
 rw[meth_len0,Sem.run_bind,load567 a v w h];rfl
theorem meth_less (a : Addr) (v : Value) (w : World) (h : w.cell? a = some v) : (method 389 244 (.pointer (some a)) "Less").run Tryz.prog w = .ok (222, v) w := by
 rw[meth_less0,Sem.run_bind,load567 a v w h];rfl
theorem meth_swap (a : Addr) (v : Value) (w : World) (h : w.cell? a = some v) : (method 389 244 (.pointer (some a)) "Swap").run Tryz.prog w = .ok (225, v) w := by
 rw[meth_swap0,Sem.run_bind,load567 a v w h];rfl
def swapL (l:List Nat) (i j:Nat):List Nat:=(l.set i (l.getD j 0)).set j (l.getD i 0)
theorem swapL_length (l:List Nat) (i j:Nat):(swapL l i j).length=l.length:=by simp[swapL]
theorem getD_set_eq (l:List Nat) (i k v:Nat) (hi:i<l.length):(l.set i v).getD k 0=if k=i then v else l.getD k 0:=by
 rw[List.getD_eq_getElem?_getD,List.getD_eq_getElem?_getD,List.getElem?_set];by_cases h:i=k
 ·subst h;simp[hi]
 ·rw[if_neg h,if_neg (by omega)]
theorem swapL_getD (l:List Nat) (i j k:Nat) (hi:i<l.length) (hj:j<l.length):(swapL l i j).getD k 0=if k=j then l.getD i 0 else if k=i then l.getD j 0 else l.getD k 0:=by
 unfold swapL;rw[getD_set_eq _ _ _ _ (by simpa using hj),getD_set_eq _ _ _ _ hi]
theorem swapL_perm (l:List Nat) (i j:Nat) (hi:i<l.length) (hj:j<l.length):(swapL l i j).Perm l:=by
 unfold swapL;have e1:l.getD j 0=l[j]:=by rw[List.getD_eq_getElem?_getD,List.getElem?_eq_getElem hj];rfl
 have e2:l.getD i 0=l[i]:=by rw[List.getD_eq_getElem?_getD,List.getElem?_eq_getElem hi];rfl
 rw[e1,e2];exact List.set_set_perm hi hj
def par (k:Nat):Nat:=(k - 1) / 2
theorem par_lt {k:Nat} (h:0<k):par k<k:=by unfold par;omega
def IsHeap (l:List Nat):Prop:=∀k,0<k→k<l.length→l.getD (par k) 0≤l.getD k 0
theorem IsHeap.min {l:List Nat} (h:IsHeap l) (k:Nat) (hk:k<l.length):l.getD 0 0≤l.getD k 0:=by
 induction k using Nat.strongRecOn with
 | _ k ih=>
  by_cases h0:k=0
  ·subst h0;exact Nat.le_refl _
  ·have hp:=par_lt (k:=k) (by omega)
   exact Nat.le_trans (ih (par k) hp (by omega)) (h k (by omega) hk)
def upL (l:List Nat) (j:Nat):List Nat:=
 if h:0<j then(if l.getD j 0<l.getD (par j) 0 then upL (swapL l (par j) j) (par j)else l)else l
termination_by j
decreasing_by exact par_lt h
theorem upL_perm (l:List Nat) (j:Nat) (hj:j<l.length):(upL l j).Perm l:=by
 induction j using Nat.strongRecOn generalizing l with
 | _ j ih=>
  rw[upL]
  split
  ·rename_i h
   have hp:=par_lt h
   split
   ·exact(ih _ hp _ (by rw[swapL_length];omega)).trans (swapL_perm l _ _ (by omega) hj)
   ·exact List.Perm.refl _
  ·exact List.Perm.refl _
theorem upL_heap (l:List Nat) (j:Nat) (hj:j<l.length) (ha:∀k,0<k→k<l.length→k≠j→l.getD (par k) 0≤l.getD k 0)
 (hb:∀k,0<k→k<l.length→par k=j→0<j→l.getD (par j) 0≤l.getD k 0):IsHeap (upL l j):=by
 induction j using Nat.strongRecOn generalizing l with
 | _ j ih=>
  rw[upL]
  split
  ·rename_i h
   have hp:=par_lt h
   split
   ·rename_i hlt
    have hg:=fun k=>swapL_getD l (par j) j k (by omega) hj;refine ih _ hp _ (by rw[swapL_length];omega) ?_ ?_
    ·intro k hk0 hk hkp
     rw[swapL_length]at hk;have hpk:=par_lt hk0;rw[hg,hg];by_cases e:k=j
     ·subst e
      rw[if_neg (by omega),if_pos rfl,if_pos rfl];omega
     ·rw[if_neg (by omega:¬k=j),if_neg hkp]
      by_cases e1:par k=j
      ·rw[if_pos e1];exact hb k hk0 hk e1 h
      ·rw[if_neg e1]
       by_cases e2:par k=par j
       ·rw[if_pos e2]
        have:=ha k hk0 hk e;rw[e2]at this;omega
       ·rw[if_neg e2];exact ha k hk0 hk e
    ·intro k hk0 hk hkp h0
     rw[swapL_length]at hk;have hpp:=par_lt h0;have hpk:=par_lt hk0;rw[hg,hg,if_neg (by omega),if_neg (by omega)];have h1:=ha (par j) h0 (by omega) (by omega);by_cases e:k=j
     ·rw[if_pos e];exact h1
     ·rw[if_neg e,if_neg (by omega)]
      have:=ha k hk0 hk e;rw[hkp]at this;omega
   ·rename_i hlt
    intro k hk0 hk;by_cases e:k=j
    ·subst e;omega
    ·exact ha k hk0 hk e
  ·rename_i h
   intro k hk0 hk;exact ha k hk0 hk (by omega)
def childL (l:List Nat) (i n:Nat):Nat:=if 2*i+2<n∧l.getD (2*i+2) 0<l.getD (2*i+1) 0 then 2*i+2 else 2*i+1
theorem childL_gt (l:List Nat) (i n:Nat):i<childL l i n:=by unfold childL;split<;>omega
theorem childL_lt {l:List Nat} {i n:Nat} (h:2*i+1<n):childL l i n<n:=by unfold childL;split<;>omega
def downL (l:List Nat) (i n:Nat):List Nat:=
 if h:2*i+1<n then(if l.getD (childL l i n) 0<l.getD i 0 then downL (swapL l i (childL l i n)) (childL l i n) n else l)else l
termination_by n - i
decreasing_by have:=childL_gt l i n;have:=childL_lt (l:=l) h;omega
theorem downL_length (l:List Nat) (i n:Nat):(downL l i n).length=l.length:=by
 fun_induction downL l i n with
 | case1 l i h hlt ih=>rw[ih,swapL_length]
 | case2=>rfl
 | case3=>rfl
theorem downL_perm (l:List Nat) (i n:Nat) (hn:n≤l.length):(downL l i n).Perm l:=by
 fun_induction downL l i n with
 | case1 l i h hlt ih=>
  have h1:=childL_gt l i n;have h2:=childL_lt (l:=l) h;exact(ih (by rw[swapL_length];exact hn)).trans (swapL_perm l _ _ (by omega) (by omega))
 | case2=>exact List.Perm.refl _
 | case3=>exact List.Perm.refl _
theorem downL_above (l:List Nat) (i n:Nat) (hn:n≤l.length) (k:Nat) (hk:n≤k):(downL l i n).getD k 0=l.getD k 0:=by
 fun_induction downL l i n with
 | case1 l i h hlt ih=>
  have h1:=childL_gt l i n;have h2:=childL_lt (l:=l) h;rw[ih (by rw[swapL_length];exact hn),swapL_getD _ _ _ _ (by omega) (by omega),if_neg (by omega),if_neg (by omega)]
 | case2=>rfl
 | case3=>rfl
theorem downL_heap (l:List Nat) (i n:Nat) (hn:n≤l.length) (ha:∀k,0<k→k<n→par k≠i→l.getD (par k) 0≤l.getD k 0)
 (hb:∀k,0<k→k<n→par k=i→0<i→l.getD (par i) 0≤l.getD k 0):∀k,0<k→k<n→(downL l i n).getD (par k) 0≤(downL l i n).getD k 0:=by
 fun_induction downL l i n with
 | case1 l i h hlt ih=>
  have h1:=childL_gt l i n;have h2:=childL_lt (l:=l) h;have hpc:par (childL l i n)=i:=by unfold childL par;split<;>omega
  have hmin:∀k,0<k→k<n→par k=i→l.getD (childL l i n) 0≤l.getD k 0:=by
   intro k hk0 hk hp;have:k=2*i+1∨k=2*i+2:=by unfold par at hp;omega
   unfold childL
   split<;>rcases this with rfl|rfl<;>omega
  generalize childL l i n=c at*;have hg:=fun k=>swapL_getD l i c k (by omega) (by omega);refine ih (by rw[swapL_length];exact hn) ?_ ?_
  ·intro k hk0 hk hkp
   have hpk:=par_lt hk0;rw[hg,hg];rw[if_neg hkp];by_cases e:k=c
   ·subst e
    rw[if_pos rfl,hpc,if_pos rfl];omega
   ·rw[if_neg e]
    by_cases e1:k=i
    ·subst e1
     rw[if_pos rfl,if_neg (by omega)];exact hb c (by omega) h2 hpc (by omega)
    ·rw[if_neg e1]
     by_cases e2:par k=i
     ·rw[if_pos e2]
      have:=hmin k hk0 hk e2;omega
     ·rw[if_neg e2];exact ha k hk0 hk e2
  ·intro k hk0 hk hkp h0
   have hpk:=par_lt hk0;rw[hg,hg,hpc,if_neg (by omega),if_pos rfl,if_neg (by omega),if_neg (by omega)];have:=ha k hk0 hk (by omega);rw[hkp]at this;exact this
 | case2 l i h hlt=>
  intro k hk0 hk;by_cases e:par k=i
  ·have:k=2*i+1∨k=2*i+2:=by unfold par at e;omega
   rw[e];unfold childL at hlt
   split at hlt<;>rcases this with rfl|rfl<;>omega
  ·exact ha k hk0 hk e
 | case3 l i h=>
  intro k hk0 hk;refine ha k hk0 hk ?_;unfold par;omega
def pushL (l:List Nat) (x:Nat):List Nat:=upL (l++[x]) l.length
theorem pushL_perm (l:List Nat) (x:Nat):(pushL l x).Perm (x::l):=
 (upL_perm _ _ (by simp)).trans (List.perm_append_singleton x l)
theorem pushL_heap {l:List Nat} (h:IsHeap l) (x:Nat):IsHeap (pushL l x):=by
 refine upL_heap _ _ (by simp) ?_ ?_
 ·intro k hk0 hk hne
  have hk':k<l.length:=by simp at hk;omega
  have hp:=par_lt hk0;rw[List.getD_eq_getElem?_getD,List.getD_eq_getElem?_getD,List.getElem?_append_left (by omega),List.getElem?_append_left hk',←List.getD_eq_getElem?_getD,←List.getD_eq_getElem?_getD];exact h k hk0 hk'
 ·intro k hk0 hk hp _
  have:=par_lt hk0;simp at hk;omega
def popL (l:List Nat):List Nat:=(downL (swapL l 0 (l.length - 1)) 0 (l.length - 1)).take (l.length - 1)
theorem popL_length (l:List Nat):(popL l).length=l.length - 1:=by
 unfold popL;rw[List.length_take,downL_length,swapL_length];omega
theorem popL_last {l:List Nat} (h:0<l.length):(downL (swapL l 0 (l.length - 1)) 0 (l.length - 1)).getD (l.length - 1) 0=l.getD 0 0:=by
 rw[downL_above _ _ _ (by rw[swapL_length];omega) _ (Nat.le_refl _),swapL_getD _ _ _ _ h (by omega),if_pos rfl]
theorem popL_perm {l:List Nat} (h:0<l.length):(l.getD 0 0::popL l).Perm l:=by
 have h1:(downL (swapL l 0 (l.length - 1)) 0 (l.length - 1)).Perm l:=(downL_perm _ _ _ (by rw[swapL_length];omega)).trans (swapL_perm l _ _ h (by omega));have hlen:(downL (swapL l 0 (l.length - 1)) 0 (l.length - 1)).length=l.length:=by rw[downL_length,swapL_length]
 have hlast:=popL_last h;unfold popL;generalize downL (swapL l 0 (l.length - 1)) 0 (l.length - 1)=m at*
 have e:m=m.take (l.length - 1)++[l.getD 0 0]:=by
  have h2:=List.take_append_drop (l.length - 1) m
  have h3:m.drop (l.length - 1)=[l.getD 0 0]:=by
   rw[List.drop_eq_getElem_cons (by omega),List.drop_of_length_le (by omega)];rw[List.getD_eq_getElem?_getD,List.getElem?_eq_getElem (by omega)]at hlast;simp only[Option.getD_some]at hlast;rw[hlast]
  rw[h3]at h2;exact h2.symm
 have h4:(l.getD 0 0::m.take (l.length - 1)).Perm m:=by
  have:=(List.perm_append_singleton (l.getD 0 0) (m.take (l.length - 1))).symm
  rwa [←e]at this
 exact h4.trans h1
theorem popL_heap {l:List Nat} (hh:IsHeap l) (h:0<l.length):IsHeap (popL l):=by
 have hs:=fun k=>swapL_getD l 0 (l.length - 1) k h (by omega)
 have hd:=downL_heap (swapL l 0 (l.length - 1)) 0 (l.length - 1) (by rw[swapL_length];omega) (by
  intro k hk0 hk hp;have:=par_lt hk0;rw[hs,hs,if_neg (by omega),if_neg hp,if_neg (by omega),if_neg (by omega)]
  exact hh k hk0 (by omega)) (fun k _ _ _ h0=>absurd h0 (Nat.lt_irrefl _))
 intro k hk0 hk;rw[popL_length]at hk;have hp:=par_lt hk0;unfold popL;rw[List.getD_eq_getElem?_getD,List.getD_eq_getElem?_getD,List.getElem?_take_of_lt (by omega),List.getElem?_take_of_lt hk,←List.getD_eq_getElem?_getD,←List.getD_eq_getElem?_getD];exact hd k hk0 hk
theorem popL_least {l:List Nat} (hh:IsHeap l) {x:Nat} (hx:x∈l):l.getD 0 0≤x:=by
 obtain⟨k,hk,rfl⟩:=List.mem_iff_getElem.1 hx;have e:l.getD k 0=l[k]:=by rw[List.getD_eq_getElem?_getD,List.getElem?_eq_getElem hk];rfl
 rw[←e];exact hh.min k hk
theorem own_num {W:World} {B e g n c:Nat} {k:IntKind} {l:List Nat} (h:W.ownsRow B e 1 (.slice (some ⟨g,0,none⟩) n c) n (encN k l)) {i:Nat} (hi:i<l.length):W.cell? ⟨g,i,none⟩=some (.int k (l.getD i 0:Nat)):=by
 rw[h.cellAt i (by have:=h.1;rw[encN_length]at this;omega)];exact encN_at k l i hi
theorem encN_set (k:IntKind) (l:List Nat) (i v:Nat):(encN k l).set i (.int k (v:Nat))=encN k (l.set i v):=by simp[encN,List.map_set]
theorem grown_drewN (W:World) (n:Nat) (r:Option Nat):W.grownBy (W.drewN n) r:=⟨rfl,rfl,rfl,Nat.le_refl _,fun _ _ _=>rfl⟩
theorem len_any (a:Option Addr) (n c:Nat) (w:World):Calls Tryz.prog 167 #[.slice a n c] w fun e w'=>e=.returned (.int .i64 n)∧w=w':=by
 go_enter Tryz.func167,Tryz.ntmps167;go_wp2;go_ret;exact⟨rfl,rfl⟩
theorem less_h {w:World} {B g c:Nat} {l:List Nat} (h:w.ownsRow B 3 1 (.slice (some ⟨g,0,none⟩) l.length c) l.length (encN .i64 l)) (i j:Nat) (hi:i<l.length) (hj:j<l.length) :
 Calls Tryz.prog 222 #[.slice (some ⟨g,0,none⟩) l.length c,.int .i64 i,.int .i64 j] w fun e w'=>e=.returned (.bool (decide (l.getD i 0<l.getD j 0)))∧∃n,w'=w.drewN n:=by
 have h1:=own_num h hi;have h2:=own_num h hj;generalize l.getD i 0=x at*;generalize l.getD j 0=y at*;have hii:(i:Int)<(l.length:Int):=by omega
 have hi0:(0:Int)≤(i:Int):=by omega
 have hjj:(j:Int)<(l.length:Int):=by omega
 have hj0:(0:Int)≤(j:Int):=by omega
 clear h;go_enter Tryz.func222,Tryz.ntmps222;go_wp2_with fail
 go_quiet(fail)
 go_wp2;go_ret;exact⟨ret_boolE (by simp),_,rfl⟩
theorem swap_h {w:World} {B g c:Nat} {l:List Nat} (h:w.ownsRow B 3 1 (.slice (some ⟨g,0,none⟩) l.length c) l.length (encN .i64 l)) (i j:Nat) (hi:i<l.length) (hj:j<l.length) (hij:i≠j) :
 Calls Tryz.prog 225 #[.slice (some ⟨g,0,none⟩) l.length c,.int .i64 i,.int .i64 j] w fun e w'=>(∃v,e=.returned v)∧w'.ownsRow B 3 1 (.slice (some ⟨g,0,none⟩) l.length c) l.length (encN .i64 (swapL l i j))∧w.grownBy w' (some g):=by
 have h1:=own_num h hi;have h2:=own_num h hj;have f1:=h.frozenAt i;have f2:=h.frozenAt j;have H:=Lib.hid h;have hii:(i:Int)<(l.length:Int):=by omega
 have hi0:(0:Int)≤(i:Int):=by omega
 have hjj:(j:Int)<(l.length:Int):=by omega
 have hj0:(0:Int)≤(j:Int):=by omega
 obtain⟨x,hx⟩:∃x,x=l.getD i 0:=⟨_,rfl⟩;obtain⟨y,hy⟩:∃y,y=l.getD j 0:=⟨_,rfl⟩;rw[←hx]at h1;rw[←hy]at h2;have HX:=Lib.hid hx;have HY:=Lib.hid hy;clear h hx hy;go_enter Tryz.func225,Tryz.ntmps225;go_wp2_with fail
 go_region
 go_end0
 have s1:=H.out.stored i (.int .i64 y);have s2:=s1.1.stored j (.int .i64 x);refine⟨⟨_,rfl⟩,?_,grownBy_trans (grownBy_trans s1.2 s2.2 (fun q e=>.inl e)) (grown_drewN _ 1 (some g)) (fun q e=>.inl e)⟩;have h:=own_drewN s2.1 1;rw[encN_set,encN_set]at h;have e:(l.set i y).set j x=swapL l i j:=by rw[HX.out,HY.out];rfl
 rw[e]at h;exact h
structure HpAt (W:World) (B p:Nat) (v:Value) (l:List Nat):Prop where
 c:W.cell? ⟨p,0,none⟩=some v
 f:W.frozen? ⟨p,0,none⟩=false
 o:W.ownsRow B 3 1 v l.length (encN .i64 l)
 ne:v.ownBlock≠some p
 hp:B≤p
structure HpTo (w w':World) (p:Nat) (v v':Value):Prop where
 os:w'.os=w.os
 tape:w'.tape=w.tape
 output:w'.output=w.output
 size:w.heap.size≤w'.heap.size
 block:∀k,k<w.heap.size→k≠p→v.ownBlock≠some k→w'.heap[k]?=w.heap[k]?
 fresh:∀g,v'.ownBlock=some g→v.ownBlock=some g∨w.heap.size≤g
theorem HpTo.refl (w:World) (p:Nat) (v:Value):HpTo w w p v v:=⟨rfl,rfl,rfl,Nat.le_refl _,fun _ _ _ _=>rfl,fun g h=>.inl h⟩
theorem HpTo.drewN (w:World) (p:Nat) (v:Value) (n:Nat):HpTo w (w.drewN n) p v v:=⟨rfl,rfl,rfl,Nat.le_refl _,fun _ _ _ _=>rfl,fun g h=>.inl h⟩
theorem HpTo.trans {w w' w'':World} {p:Nat} {v v' v'':Value} (h:HpTo w w' p v v') (k:HpTo w' w'' p v' v''):HpTo w w'' p v v'':=
 ⟨k.os.trans h.os,k.tape.trans h.tape,k.output.trans h.output,Nat.le_trans h.size k.size,fun i hi hp hv=>(k.block i (Nat.lt_of_lt_of_le hi h.size) hp (fun e=>by
  rcases h.fresh i e with h1|h1
  ·exact hv h1
  ·omega)).trans (h.block i hi hp hv),fun g e=>by
  rcases k.fresh g e with h1|h1
  ·exact h.fresh g h1
  ·exact .inr (Nat.le_trans h.size h1)⟩
theorem HpTo.below {w w':World} {p B:Nat} {v v':Value} (h:HpTo w w' p v v') (hB:B≤w.heap.size) (hp:B≤p) (hv:∀g,v.ownBlock=some g→B≤g):Below B w w':=
 ⟨h.os,h.tape,h.output,h.size,fun i hi=>h.block i (by omega) (by omega) (fun e=>by have:=hv i e;omega)⟩
theorem HpTo.of_grown {w w':World} {p g:Nat} {v:Value} (hg:w.grownBy w' (some g)) (hv:v.ownBlock=some g):HpTo w w' p v v:=
 ⟨hg.os,hg.tape,hg.output,hg.size,fun k hk _ hne=>hg.block k hk (fun e=>hne (hv.trans e.symm)),fun _ h=>.inl h⟩
theorem HpTo.set (w:World) (p:Nat) (v v':Value) (u:Value) (hf:∀g,v'.ownBlock=some g→v.ownBlock=some g∨w.heap.size≤g):HpTo w (w.setCell ⟨p,0,none⟩ u) p v v':=
 ⟨rfl,rfl,rfl,by rw[World.size_setCell];exact Nat.le_refl _,fun k _ hp _=>Below.heap_setCell _ _ _ _ hp,hf⟩
theorem mk3 (x:Int) (w:World):(Instr.makeInterface 3 (.int .i64 x)).run Tryz.prog w=.ok (.iface 3 (.int .i64 x)) w:=by kernel_rfl
theorem popM_h {w:World} {B p g c:Nat} {l:List Nat} (h:HpAt w B p (.slice (some ⟨g,0,none⟩) l.length c) l) (h0:0<l.length) :
 Calls Tryz.prog 223 #[.pointer (some ⟨p,0,none⟩)] w fun e w'=>e=.returned (.iface 3 (.int .i64 (l.getD (l.length - 1) 0:Nat)))∧∃n,w'=(w.drewN n).setCell ⟨p,0,none⟩ (.slice (some ⟨g,0,none⟩) (l.length - 1) c):=by
 have hmx:Tryz.prog.follows .mixedOrders=true:=by kernel_rfl
 have hmk:=mk3;have hx:=own_num h.o (i:=l.length - 1) (by omega);have hcap:=(own_sl h.o);obtain⟨a',c',hv,hnc,hcm,-⟩:=hcap;cases hv;have hc:=h.c;have hf:=h.f;have hm:l.length≤9223372036854775807:=by unfold maxLen at hcm;omega
 generalize l.getD (l.length - 1) 0=x at*;obtain⟨n,hn⟩:∃n,l.length=n+1:=⟨l.length - 1,by omega⟩;rw[hn]at hc hx hnc hm⊢;simp only[Nat.add_sub_cancel]at hx⊢;have hi1:IntKind.i64.wrap (((n+1:Nat):Int) - 1)=(n:Int):=by rw[show(((n+1:Nat):Int) - 1)=(n:Int)from by omega];exact IntWalk.i64_in _ (by omega)
 have hi2:(n:Int)<((n+1:Nat):Int):=by omega
 have hi0:(0:Int)≤(n:Int):=by omega
 have hi3:(n:Int)≤(c:Int):=by omega
 clear h hn h0 hcm;go_enter Tryz.func223,Tryz.ntmps223;go_wp2_with fail;refine wp_region_quiet_lit hmx (by kernel_rfl) ?_
 repeat(go_big_quiet_step (fail))
 refine wpQuiet_nil ?_;intro _ hw';obtain⟨nq,hw''⟩:=hw';subst hw'';have hc2:(w.drewN nq).cell? ⟨p,0,none⟩=some (.slice (some ⟨g,0,none⟩) (n+1) c):=hc;have hf2:(w.drewN nq).frozen? ⟨p,0,none⟩=false:=hf;obtain⟨W,hW⟩:∃W,W=w.drewN nq:=⟨_,rfl⟩;rw[←hW]at hc2 hf2⊢;have HW:=Lib.hid hW;clear hW hc hf hx;go_wp2_with fail;have hi4:IntKind.i64.wrap (n:Int)=(n:Int):=IntWalk.i64_in _ (by omega);refine wp_region_still_tail 11 hmx (by kernel_rfl) ?_;simp only[List.take_succ_cons,List.take_zero,List.drop_succ_cons,List.drop_zero]
 repeat still_step
 refine wpStill_nil ?_;change wpList _ _ _ _ _ W.drew;clear hi1 hi4;go_wp2;go_ret;exact⟨rfl,nq+1,by rw[HW.out];rfl⟩
theorem bs567 (x:Int) (w:World):(Instr.buildSlice 245 1 #[(0,.int .i64 x)]).run Tryz.prog w=.ok (.slice (some ⟨w.heap.size,0,none⟩) 1 1) (w.alloc (.cells #[.int .i64 x] 3)):=by kernel_rfl
theorem ta3 (x:Int) (w:World):(Instr.typeAssert (.iface 3 (.int .i64 x)) 20 3 false).run Tryz.prog w=.ok (.int .i64 x) w:=by kernel_rfl
theorem pushM_h {w:World} {B p:Nat} {v:Value} {l:List Nat} (h:HpAt w B p v l) (x:Nat) (hl:l.length≤20000) :
 Calls Tryz.prog 224 #[.pointer (some ⟨p,0,none⟩),.iface 3 (.int .i64 x)] w fun e w'=>(∃u,e=.returned u)∧∃v',HpAt w' B p v' (l++[x])∧HpTo w w' p v v':=by
 obtain⟨i0,hi,hz0,hz1,hz2⟩:=info_parts info3';have hmk:=bs567;have hta:=ta3;have H:=Lib.hid h;have hc:=h.c;have hf:=h.f;have hpl:p<w.heap.size:=World.block_lt_of_cell? _ _ hc;have hne1:w.heap.size≠p:=by omega
 have hb63:l.length+1≤maxLen:=by unfold maxLen;omega
 have hb47:(l.length+1)*8≤140737488355328:=by omega
 clear h;go_enter Tryz.func224,Tryz.ntmps224;go_wp2_with fail
 go_region_law((refine step_append_grew rfl (.tmp 7) (.tmp 10) 245 rfl 3 i0 (.int .i64 0) 1 8 Tryz.underlying245 hi hz0 hz1 hz2 rfl (by decide) v l.length (encN .i64 l) rfl (own_below (own_base (own_drewN H.out.o 1)) (Bel.new _ _)) ⟨_,0,none⟩ 1 1 [_] rfl rfl (news_new _ #[_] 3) ?_ hb63 hb47 ?_;(intro u hu;rw[List.mem_singleton.1 hu];rfl);intro v3 w3 hr3 hg3 hn3;obtain⟨g3,c3,hv3,hb3,hl3⟩:=own_start hr3 (Nat.succ_pos _);have hbn:=Bel.new w.drew (.cells #[.int .i64 x] 3);have hcx:=grown_cell hg3.1 ((hbn.cell (p:=⟨p,0,none⟩) hpl).trans hc) (by simp;omega) H.out.ne;have hfx:w3.frozen? ⟨p,0,none⟩=false:=(World.frozen?_of_block (hg3.1.block p (by simp;omega) (fun e=>H.out.ne e.symm))).trans ((hbn.frozen (p:=⟨p,0,none⟩) hpl).trans hf);have HR3:=Lib.hid hr3;have HG3:=Lib.hid hg3;subst hv3;clear hr3 hg3 hn3 hbn hb3))
 all_goals
  go_end0
  have hfr:∀q,(Value.slice (some ⟨g3,0,none⟩) (l.length+1) c3).ownBlock=some q→v.ownBlock=some q∨w.heap.size≤q:=fun q e=>by
   rcases HG3.out.2 q e with h|h
   ·exact .inl h
   ·exact .inr (by simp at h;omega)
  have hBw:=H.out.hp;refine⟨⟨_,rfl⟩,_,⟨World.cell?_setCell_same' _ _ _ (by rw[hcx];rfl),by rw[World.frozen?_setCell];exact hfx,?_,?_,hBw⟩,?_⟩
  ·rw[List.length_append,encN_append]
   refine ownsRow_setCell_other (own_from HR3.out (fun q e=>?_)) (fun e=>?_) _
   ·rcases hfr q e with h|h
    ·exact(H.out.o.lt q h).1
    ·omega
   ·rcases hfr p e with h|h
    ·exact H.out.ne h
    ·omega
  ·intro e
   rcases hfr p e with h|h
   ·exact H.out.ne h
   ·omega
  ·have hg:=HG3.out.1
   refine⟨hg.os,hg.tape,hg.output,?_,fun k hk hkp hkv=>?_,hfr⟩
   ·have:=hg.size
    rw[World.size_setCell];simp at this;omega
   ·refine(heap_setCell_other _ _ _ _ hkp).trans ((hg.block k (by simp;omega) (fun e=>hkv e.symm)).trans ?_)
    exact Below.heap_alloc _ _ _ hk
theorem HpAt.drewN {W:World} {B p:Nat} {v:Value} {l:List Nat} (h:HpAt W B p v l) (n:Nat):HpAt (W.drewN n) B p v l:=⟨h.c,h.f,own_drewN h.o n,h.ne,h.hp⟩
theorem HpAt.grown {W W':World} {B p g n c:Nat} {l l':List Nat} (h:HpAt W B p (.slice (some ⟨g,0,none⟩) n c) l) (hg:W.grownBy W' (some g)) (ho:W'.ownsRow B 3 1 (.slice (some ⟨g,0,none⟩) n c) l'.length (encN .i64 l')):HpAt W' B p (.slice (some ⟨g,0,none⟩) n c) l':=by
 have hl:=World.block_lt_of_cell? _ _ h.c;have hne:(some g:Option Nat)≠some p:=h.ne;exact⟨grown_cell hg h.c hl hne,(World.frozen?_of_block (hg.block p hl (fun e=>hne e.symm))).trans h.f,ho,h.ne,h.hp⟩
theorem up_h {w:World} {B p:Nat} {v:Value} {l:List Nat} (h:HpAt w B p v l) (j:Nat) (hj:j<l.length) (hl:l.length≤20000) :
 Calls Tryz.prog 193 #[.iface 244 (.pointer (some ⟨p,0,none⟩)),.int .i64 j] w fun e w'=>(∃u,e=.returned u)∧HpAt w' B p v (upL l j)∧HpTo w w' p v v:=by
 obtain⟨g,c,rfl,-,-⟩:=own_start h.o (by omega);have H:=Lib.hid h;clear h;go_enter Tryz.func193,Tryz.ntmps193;go_wp2_with fail
 go_loopw[1] (fun i wr=>∃(m:Nat) (lm:List Nat),i=.int .i64 m∧m<l.length∧lm.length=l.length∧HpAt wr B p (.slice (some ⟨g,0,none⟩) l.length c) lm∧HpTo w wr p (.slice (some ⟨g,0,none⟩) l.length c) (.slice (some ⟨g,0,none⟩) l.length c)∧upL lm m=upL l j) (fun i _=>(intOf i).toNat)
 case atStart=>exact⟨j,l,rfl,hj,rfl,H.out,HpTo.refl _ _ _,rfl⟩
 case round=>
  obtain⟨m,lm,rfl,hm,hlm,hI,hT,hu⟩:=hrel;rw[upL]at hu;by_cases h0:0<m
  ·have hp:=par_lt h0
   rw[dif_pos h0]at hu;have hdiv:=Lib.hid (show((m:Int) - 1) / 2=((par m:Nat):Int)from by unfold par;omega);have hb1:(1:Int)≤(m:Int):=by omega
   have hb2:(m:Int)≤20000:=by omega
   have HI:=Lib.hid hI;have HT:=Lib.hid hT;have hml:=meth_less ⟨p,0,none⟩ _ wr hI.c;have hle:=less_h (l:=lm) (c:=c) (by rw[hlm];have:=hI.o;rwa [hlm]at this) m (par m) (by omega) (by omega);rw[hlm]at hle;by_cases hlt:lm.getD m 0<lm.getD (par m) 0
   ·rw[decide_eq_true hlt]at hle
    rw[if_pos hlt]at hu;have HLE:=Lib.hid hle;have HU:=Lib.hid hu;have hsw:=fun n=>swap_h (w:=wr.drewN n) (l:=lm) (c:=c) (own_drewN (by rw[hlm];have:=hI.o;rwa [hlm]at this) n) (par m) m (by omega) (by omega) (by omega);rw[hlm]at hsw;have HSW:=Lib.hid hsw;have hms : ∀ n, (method 389 244 (.pointer (some ⟨p, 0, none⟩)) "Swap").run Tryz.prog (wr.drewN n) = .ok (225, .slice (some ⟨g, 0, none⟩) l.length c) (wr.drewN n) := fun n => meth_swap ⟨p, 0, none⟩ _ (wr.drewN n) hI.c
    have hne:((par m:Int)==(m:Int))=false:=(by simp;omega);clear hI hT hle hu hsw hlt;go_wp2_with fail;rw[hdiv.out];refine HLE.out.mono ?_;rintro e w1⟨rfl,n,rfl⟩;go_wp2_with fail;refine(HSW.out n).mono ?_;rintro e w2⟨⟨u,rfl⟩,ho,hg⟩;have HI2:=Lib.hid ((HI.out.drewN n).grown hg (by rw[swapL_length,hlm];exact ho));have HT2:=Lib.hid (HT.out.trans ((HpTo.drewN wr p _ n).trans (HpTo.of_grown hg rfl)));clear ho hg hms;go_wp2
    go_roundw
    case rel=>exact⟨par m,swapL lm (par m) m,rfl,by omega,by rw[swapL_length];exact hlm,HI2.out,HT2.out,HU.out⟩
    case measure=>simp[intOf];omega
   ·rw[decide_eq_false hlt]at hle
    rw[if_neg hlt]at hu;subst hu;have HLE:=Lib.hid hle;have hne:((par m:Int)==(m:Int))=false:=(by simp;omega);clear hI hT hle hlt;go_wp2_with fail;rw[hdiv.out];refine HLE.out.mono ?_;rintro e w1⟨rfl,n,rfl⟩;go_wp2
    go_end0
    exact⟨⟨_,rfl⟩,HI.out.drewN n,HT.out.trans (HpTo.drewN wr p _ n)⟩
  ·obtain rfl:m=0:=by omega
   rw[dif_neg h0]at hu;subst hu;have HI:=Lib.hid hI;have HT:=Lib.hid hT;clear hI hT;go_wp2
   go_end0
   exact⟨⟨_,rfl⟩,HI.out,HT.out⟩
theorem childL_a {l:List Nat} {i n:Nat} (h:2*i+2<n) (h2:l.getD (2*i+2) 0<l.getD (2*i+1) 0):childL l i n=2*i+2:=by unfold childL;rw[if_pos ⟨h,h2⟩]
theorem childL_b {l:List Nat} {i n:Nat} (h2:¬(2*i+2<n∧l.getD (2*i+2) 0<l.getD (2*i+1) 0)):childL l i n=2*i+1:=by unfold childL;rw[if_neg h2]
theorem less_i {w:World} {B g c n:Nat} {l:List Nat} (h:w.ownsRow B 3 1 (.slice (some ⟨g,0,none⟩) n c) n (encN .i64 l)) (hn:l.length=n) (i j:Nat) (x y:Int) (hx:x=(i:Int)) (hy:y=(j:Int)) (hi:i<n) (hj:j<n) (b:Bool) (hb:decide (l.getD i 0<l.getD j 0)=b) :
 Calls Tryz.prog 222 #[.slice (some ⟨g,0,none⟩) n c,.int .i64 x,.int .i64 y] w fun e w'=>e=.returned (.bool b)∧∃n,w'=w.drewN n:=by
 subst hn hx hy hb;exact less_h h i j hi hj
theorem swap_i {w:World} {B g c n:Nat} {l:List Nat} (h:w.ownsRow B 3 1 (.slice (some ⟨g,0,none⟩) n c) n (encN .i64 l)) (hn:l.length=n) (i j:Nat) (x y:Int) (hx:x=(i:Int)) (hy:y=(j:Int)) (hi:i<n) (hj:j<n) (hij:i≠j) :
 Calls Tryz.prog 225 #[.slice (some ⟨g,0,none⟩) n c,.int .i64 x,.int .i64 y] w fun e w'=>(∃v,e=.returned v)∧w'.ownsRow B 3 1 (.slice (some ⟨g,0,none⟩) n c) n (encN .i64 (swapL l i j))∧w.grownBy w' (some g):=by
 subst hn hx hy;exact swap_h h i j hi hj hij
theorem down_h {w:World} {B p:Nat} {v:Value} {l:List Nat} (h:HpAt w B p v l) (i n:Nat) (hn:n≤l.length) (h0:0<l.length) (hi:i≤20000) (hl:l.length≤20000) :
 Calls Tryz.prog 190 #[.iface 244 (.pointer (some ⟨p,0,none⟩)),.int .i64 i,.int .i64 n] w fun e w'=>(∃u,e=.returned u)∧HpAt w' B p v (downL l i n)∧HpTo w w' p v v:=by
 obtain⟨g,c,rfl,-,-⟩:=own_start h.o (by omega);have H:=Lib.hid h;have hl2:l.length≤9223372036854775807:=by omega
 have hni:(n:Int)≤20000:=by omega
 clear h;go_enter Tryz.func190,Tryz.ntmps190;go_wp2_with fail
 go_loopw[7] (fun x wr=>∃(m:Nat) (lm:List Nat),x=.int .i64 m∧m≤20000∧lm.length=l.length∧HpAt wr B p (.slice (some ⟨g,0,none⟩) l.length c) lm∧HpTo w wr p (.slice (some ⟨g,0,none⟩) l.length c) (.slice (some ⟨g,0,none⟩) l.length c)∧downL lm m n=downL l i n) (fun x _=>n - (intOf x).toNat)
 case atStart=>exact⟨i,l,rfl,hi,rfl,H.out,HpTo.refl _ _ _,rfl⟩
 case round=>
  obtain⟨m,lm,rfl,hm,hlm,hI,hT,hu⟩:=hrel;rw[downL]at hu;have hb0:(0:Int)≤(m:Int):=by omega
  have hb2:(m:Int)≤20000:=by omega
  have HI:=Lib.hid hI;have HT:=Lib.hid hT;by_cases h1:2*m+1<n
  ·rw[dif_pos h1]at hu
   have ho:=hI.o;rw[hlm]at ho;have HO:=Lib.hid ho;have hk1:(2*(m:Int)+1)<(n:Int):=by omega
   have hml:=fun k=>meth_less ⟨p,0,none⟩ (.slice (some ⟨g,0,none⟩) l.length c) (wr.drewN k) hI.c;have hml0:=meth_less ⟨p,0,none⟩ (.slice (some ⟨g,0,none⟩) l.length c) wr hI.c;have hms:=fun k=>meth_swap ⟨p,0,none⟩ (.slice (some ⟨g,0,none⟩) l.length c) (wr.drewN k) hI.c;clear hI hT ho;by_cases h2:2*m+2<n
   ·have hk2:(2*(m:Int)+1+1)<(n:Int):=by omega
    by_cases h3:lm.getD (2*m+2) 0<lm.getD (2*m+1) 0
    ·rw[childL_a h2 h3]at hu
     by_cases hc:lm.getD (2*m+2) 0<lm.getD m 0
     ·rw[if_pos hc]at hu
      have HU:=Lib.hid hu;clear hu;have HL1:=Lib.hid (less_i HO.out hlm (2*m+2) (2*m+1) (2*(m:Int)+1+1) (2*(m:Int)+1) (by omega) (by omega) (by omega) (by omega) true (decide_eq_true h3));have HL2:=Lib.hid (fun k1=>less_i (own_drewN HO.out k1) hlm (2*m+2) m (2*(m:Int)+1+1) (m:Int) (by omega) rfl (by omega) (by omega) true (decide_eq_true hc));have HS:=Lib.hid (fun k2=>swap_i (own_drewN HO.out k2) hlm m (2*m+2) (m:Int) (2*(m:Int)+1+1) rfl (by omega) (by omega) (by omega) (by omega));clear hc h3;go_wp2_with fail;refine HL1.out.mono ?_;rintro e w1⟨rfl,k1,rfl⟩;go_wp2_with fail;refine(HL2.out k1).mono ?_;rintro e w2⟨rfl,k2,rfl⟩;go_wp2_with fail;refine(HS.out (k1+k2)).mono ?_;rintro e w3⟨⟨u,rfl⟩,ho3,hg3⟩;have HI3:=Lib.hid ((HI.out.drewN (k1+k2)).grown hg3 (by rw[swapL_length,hlm];exact ho3));have HT3:=Lib.hid (HT.out.trans ((HpTo.drewN wr p _ (k1+k2)).trans (HpTo.of_grown hg3 rfl)));clear ho3 hg3 hms hml hml0;go_wp2
      go_roundw
      case rel=>exact⟨2*m+2,swapL lm m (2*m+2),congrArg _ (by omega),by omega,by rw[swapL_length];exact hlm,HI3.out,HT3.out,HU.out⟩
      case measure=>simp[intOf];omega
     ·rw[if_neg hc]at hu
      subst hu;have HL1:=Lib.hid (less_i HO.out hlm (2*m+2) (2*m+1) (2*(m:Int)+1+1) (2*(m:Int)+1) (by omega) (by omega) (by omega) (by omega) true (decide_eq_true h3));have HL2:=Lib.hid (fun k1=>less_i (own_drewN HO.out k1) hlm (2*m+2) m (2*(m:Int)+1+1) (m:Int) (by omega) rfl (by omega) (by omega) false (decide_eq_false hc));clear hc h3;go_wp2_with fail;refine HL1.out.mono ?_;rintro e w1⟨rfl,k1,rfl⟩;go_wp2_with fail;refine(HL2.out k1).mono ?_;rintro e w2⟨rfl,k2,rfl⟩;clear hms hml hml0;go_wp2;go_ret;exact⟨⟨_,rfl⟩,(HI.out.drewN (k1+k2)),HT.out.trans (HpTo.drewN wr p _ (k1+k2))⟩
    ·rw[childL_b (fun h=>h3 h.2)]at hu
     by_cases hc:lm.getD (2*m+1) 0<lm.getD m 0
     ·rw[if_pos hc]at hu
      have HU:=Lib.hid hu;clear hu;have HL1:=Lib.hid (less_i HO.out hlm (2*m+2) (2*m+1) (2*(m:Int)+1+1) (2*(m:Int)+1) (by omega) (by omega) (by omega) (by omega) false (decide_eq_false h3));have HL2:=Lib.hid (fun k1=>less_i (own_drewN HO.out k1) hlm (2*m+1) m (2*(m:Int)+1) (m:Int) (by omega) rfl (by omega) (by omega) true (decide_eq_true hc));have HS:=Lib.hid (fun k2=>swap_i (own_drewN HO.out k2) hlm m (2*m+1) (m:Int) (2*(m:Int)+1) rfl (by omega) (by omega) (by omega) (by omega));clear hc h3;go_wp2_with fail;refine HL1.out.mono ?_;rintro e w1⟨rfl,k1,rfl⟩;go_wp2_with fail;refine(HL2.out k1).mono ?_;rintro e w2⟨rfl,k2,rfl⟩;go_wp2_with fail;refine(HS.out (k1+k2)).mono ?_;rintro e w3⟨⟨u,rfl⟩,ho3,hg3⟩;have HI3:=Lib.hid ((HI.out.drewN (k1+k2)).grown hg3 (by rw[swapL_length,hlm];exact ho3));have HT3:=Lib.hid (HT.out.trans ((HpTo.drewN wr p _ (k1+k2)).trans (HpTo.of_grown hg3 rfl)));clear ho3 hg3 hms hml hml0;go_wp2
      go_roundw
      case rel=>exact⟨2*m+1,swapL lm m (2*m+1),congrArg _ (by omega),by omega,by rw[swapL_length];exact hlm,HI3.out,HT3.out,HU.out⟩
      case measure=>simp[intOf];omega
     ·rw[if_neg hc]at hu
      subst hu;have HL1:=Lib.hid (less_i HO.out hlm (2*m+2) (2*m+1) (2*(m:Int)+1+1) (2*(m:Int)+1) (by omega) (by omega) (by omega) (by omega) false (decide_eq_false h3));have HL2:=Lib.hid (fun k1=>less_i (own_drewN HO.out k1) hlm (2*m+1) m (2*(m:Int)+1) (m:Int) (by omega) rfl (by omega) (by omega) false (decide_eq_false hc));clear hc h3;go_wp2_with fail;refine HL1.out.mono ?_;rintro e w1⟨rfl,k1,rfl⟩;go_wp2_with fail;refine(HL2.out k1).mono ?_;rintro e w2⟨rfl,k2,rfl⟩;clear hms hml hml0;go_wp2;go_ret;exact⟨⟨_,rfl⟩,(HI.out.drewN (k1+k2)),HT.out.trans (HpTo.drewN wr p _ (k1+k2))⟩
   ·have hk2:¬(2*(m:Int)+1+1)<(n:Int):=by omega
    rw[childL_b (fun h=>h2 h.1)]at hu;by_cases hc:lm.getD (2*m+1) 0<lm.getD m 0
    ·rw[if_pos hc]at hu
     have HU:=Lib.hid hu;clear hu;have HL2:=Lib.hid (less_i HO.out hlm (2*m+1) m (2*(m:Int)+1) (m:Int) (by omega) rfl (by omega) (by omega) true (decide_eq_true hc));have HS:=Lib.hid (fun k2=>swap_i (own_drewN HO.out k2) hlm m (2*m+1) (m:Int) (2*(m:Int)+1) rfl (by omega) (by omega) (by omega) (by omega));clear hc;go_wp2_with fail;refine HL2.out.mono ?_;rintro e w2⟨rfl,k2,rfl⟩;go_wp2_with fail;refine(HS.out k2).mono ?_;rintro e w3⟨⟨u,rfl⟩,ho3,hg3⟩;have HI3:=Lib.hid ((HI.out.drewN k2).grown hg3 (by rw[swapL_length,hlm];exact ho3));have HT3:=Lib.hid (HT.out.trans ((HpTo.drewN wr p _ k2).trans (HpTo.of_grown hg3 rfl)));clear ho3 hg3 hms hml hml0;go_wp2
     go_roundw
     case rel=>exact⟨2*m+1,swapL lm m (2*m+1),congrArg _ (by omega),by omega,by rw[swapL_length];exact hlm,HI3.out,HT3.out,HU.out⟩
     case measure=>simp[intOf];omega
    ·rw[if_neg hc]at hu
     subst hu;have HL2:=Lib.hid (less_i HO.out hlm (2*m+1) m (2*(m:Int)+1) (m:Int) (by omega) rfl (by omega) (by omega) false (decide_eq_false hc));clear hc;go_wp2_with fail;refine HL2.out.mono ?_;rintro e w2⟨rfl,k2,rfl⟩;clear hms hml hml0;go_wp2;go_ret;exact⟨⟨_,rfl⟩,(HI.out.drewN k2),HT.out.trans (HpTo.drewN wr p _ k2)⟩
  ·rw[dif_neg h1]at hu
   subst hu;have hk1:¬(2*(m:Int)+1)<(n:Int):=by omega
   clear hI hT;go_wp2;go_ret;exact⟨⟨_,rfl⟩,HI.out,HT.out⟩
theorem swapL_self (l:List Nat) (i:Nat):swapL l i i=l:=by
 unfold swapL;by_cases h:i<l.length
 ·have e:l.getD i 0=l[i]:=by rw[List.getD_eq_getElem?_getD,List.getElem?_eq_getElem h];rfl
  rw[e,List.set_set,List.set_getElem_self]
 ·rw[List.set_eq_of_length_le (by simp;omega),List.set_eq_of_length_le (by omega)]
theorem swap_same {w:World} {B g c:Nat} {l:List Nat} (h:w.ownsRow B 3 1 (.slice (some ⟨g,0,none⟩) l.length c) l.length (encN .i64 l)) (i:Nat) (hi:i<l.length) :
 Calls Tryz.prog 225 #[.slice (some ⟨g,0,none⟩) l.length c,.int .i64 i,.int .i64 i] w fun e w'=>(∃v,e=.returned v)∧w'.ownsRow B 3 1 (.slice (some ⟨g,0,none⟩) l.length c) l.length (encN .i64 l)∧w.grownBy w' (some g):=by
 have h1:=own_num h hi;have f1:=h.frozenAt i;have H:=Lib.hid h;have hii:(i:Int)<(l.length:Int):=by omega
 have hi0:(0:Int)≤(i:Int):=by omega
 obtain⟨x,hx⟩:∃x,x=l.getD i 0:=⟨_,rfl⟩;rw[←hx]at h1;have HX:=Lib.hid hx;clear h hx;go_enter Tryz.func225,Tryz.ntmps225;go_wp2_with fail
 go_region
 go_end0
 have s1:=H.out.stored i (.int .i64 x);have s2:=s1.1.stored i (.int .i64 x);refine⟨⟨_,rfl⟩,?_,grownBy_trans (grownBy_trans s1.2 s2.2 (fun q e=>.inl e)) (grown_drewN _ 1 (some g)) (fun q e=>.inl e)⟩;have h:=own_drewN s2.1 1;rw[encN_set,encN_set]at h
 have e:(l.set i x).set i x=l:=by
  have:=swapL_self l i;unfold swapL at this;rw[←HX.out]at this;exact this
 rw[e]at h;exact h
theorem own_takeN {W:World} {B e g n c:Nat} {xs:List Value} (h:W.ownsRow B e 1 (.slice (some ⟨g,0,none⟩) (n+1) c) (n+1) xs):W.ownsRow B e 1 (.slice (some ⟨g,0,none⟩) n c) n (xs.take n):=by
 obtain⟨hl,h⟩:=h;rcases h with⟨hv,_⟩|⟨g',c',cur,hv,hb,hg,hn,hm,hcs,ht⟩
 ·cases hv
 ·cases hv
  refine⟨by rw[List.length_take,hl];omega,.inr ⟨g,c,cur,rfl,hb,hg,by omega,hm,hcs,?_⟩⟩;rw[←ht,List.take_take];congr 1;omega
theorem encN_take (k:IntKind) (l:List Nat) (n:Nat):(encN k l).take n=encN k (l.take n):=by simp[encN,List.map_take]
theorem pop_h {w:World} {B p:Nat} {v:Value} {l:List Nat} (h:HpAt w B p v l) (h0:0<l.length) (hl:l.length≤20000) :
 Calls Tryz.prog 168 #[.iface 244 (.pointer (some ⟨p,0,none⟩))] w fun e w'=>e=.returned (.iface 3 (.int .i64 (l.getD 0 0:Nat)))∧∃v',HpAt w' B p v' (popL l)∧HpTo w w' p v v':=by
 obtain⟨g,c,rfl,-,-⟩:=own_start h.o (by omega);obtain⟨n,hn⟩:∃n,l.length=n+1:=⟨l.length - 1,by omega⟩;have H:=Lib.hid h;have hml:=meth_len ⟨p,0,none⟩ _ w h.c;have hms:=meth_swap ⟨p,0,none⟩ _ w h.c;have hmp:=fun W=>meth_pop ⟨p,0,none⟩ W
 have hsw:Calls Tryz.prog 225 #[.slice (some ⟨g,0,none⟩) l.length c,.int .i64 0,.int .i64 n] w fun e w'=>(∃v,e=.returned v)∧w'.ownsRow B 3 1 (.slice (some ⟨g,0,none⟩) l.length c) l.length (encN .i64 (swapL l 0 n))∧w.grownBy w' (some g):=by
  by_cases hz:n=0
  ·subst hz
   have:=swap_same h.o 0 (by omega);rw[swapL_self];exact this
  ·exact swap_h h.o 0 n (by omega) (by omega) (by omega)
 obtain⟨x,hx⟩:∃x,x=l.getD 0 0:=⟨_,rfl⟩;rw[←hx];have hpl:popL l=(downL (swapL l 0 n) 0 n).take n:=by unfold popL;rw[hn];rfl
 have hla:=popL_last h0;rw[←hx]at hla;clear hx;have hD:(downL (swapL l 0 n) 0 n).length=n+1:=by rw[downL_length,swapL_length,hn]
 rw[hn]at hml hms hsw hla;simp only[Nat.add_sub_cancel]at hla;have HSW:=Lib.hid hsw;have hnn:(n:Int)≤20000:=by omega
 have Hn:=Lib.hid hn;have HPL:=Lib.hid hpl;have HLA:=Lib.hid hla;have HD:=Lib.hid hD;clear h hsw hn hpl hla hD;go_enter Tryz.func168,Tryz.ntmps168
 go_wp2_with(go_at_call 167;refine(len_any _ _ _ _).mono ?_;rintro e w'⟨rfl,rfl⟩)
 refine HSW.out.mono ?_;rintro e w1⟨⟨u,rfl⟩,ho,hg⟩
 have h1:HpAt w1 B p (.slice (some ⟨g,0,none⟩) (n+1) c) (swapL l 0 n):=by
  refine HpAt.grown (l:=l) (by have:=H.out;rwa [Hn.out]at this) hg ?_;rw[swapL_length,Hn.out];exact ho
 have t1:HpTo w w1 p (.slice (some ⟨g,0,none⟩) (n+1) c) (.slice (some ⟨g,0,none⟩) (n+1) c):=HpTo.of_grown hg rfl;have H1:=Lib.hid h1;have T1:=Lib.hid t1;clear ho hg h1 t1 hms hml;go_wp2_with fail
 go_at_call 190
 refine(down_h (i:=0) H1.out n (by rw[swapL_length,Hn.out];omega) (by rw[swapL_length,Hn.out];omega) (by omega) (by rw[swapL_length];exact hl)).mono ?_;rintro e w2⟨⟨u,rfl⟩,h2,t2⟩;have HP:=popM_h (l:=downL (swapL l 0 n) 0 n) (c:=c) (g:=g) (p:=p) (B:=B) (w:=w2) (by rw[HD.out];exact h2) (by rw[HD.out];omega);rw[HD.out]at HP;simp only[Nat.add_sub_cancel]at HP;rw[HLA.out]at HP;have H2:=Lib.hid h2;have T2:=Lib.hid t2;have HPP:=Lib.hid HP;clear h2 t2 HP;go_wp2_with fail;refine HPP.out.mono ?_;rintro e w3⟨rfl,k,rfl⟩;go_wp2;go_ret;refine⟨rfl,_,⟨World.cell?_setCell_same' _ _ _ (by rw[show(w2.drewN k).cell? ⟨p,0,none⟩=_ from H2.out.c];rfl),by rw[World.frozen?_setCell];exact H2.out.f,?_,H2.out.ne,H2.out.hp⟩,?_⟩
 ·have ho:=H2.out.o
  rw[HD.out]at ho;have h5:=own_takeN (own_drewN ho k);rw[encN_take,←HPL.out]at h5;have e5:(popL l).length=n:=by rw[popL_length,Hn.out];rfl
  rw[e5];exact ownsRow_setCell_other (a:=⟨p,0,none⟩) h5 (show(some g:Option Nat)≠some p from H2.out.ne) _
 ·rw[Hn.out]
  exact T1.out.trans (T2.out.trans ((HpTo.drewN _ _ _ k).trans (HpTo.set _ _ _ _ _ (fun g h=>.inl h))))
theorem push_h {w:World} {B p:Nat} {v:Value} {l:List Nat} (h:HpAt w B p v l) (x:Nat) (hl:l.length≤19000) :
 Calls Tryz.prog 171 #[.iface 244 (.pointer (some ⟨p,0,none⟩)),.iface 3 (.int .i64 x)] w fun e w'=>(∃u,e=.returned u)∧∃v',HpAt w' B p v' (pushL l x)∧HpTo w w' p v v':=by
 have H:=Lib.hid h;have hmp:=meth_push ⟨p,0,none⟩ w;have HPU:=Lib.hid (pushM_h h x (by omega));have hnn:(l.length:Int)≤20000:=by omega
 clear h;go_enter Tryz.func171,Tryz.ntmps171;go_wp2_with fail;refine HPU.out.mono ?_;rintro e w1⟨⟨u,rfl⟩,v1,h1,t1⟩;obtain⟨g,c,hv1,-,-⟩:=own_start h1.o (by simp);rw[List.length_append,List.length_singleton]at hv1;subst hv1;have hml:=meth_len ⟨p,0,none⟩ _ w1 h1.c;have H1:=Lib.hid h1;have T1:=Lib.hid t1;clear h1 t1
 go_wp2_with(go_at_call 167;refine(len_any _ _ _ _).mono ?_;rintro e w'⟨rfl,rfl⟩)
 refine(up_h H1.out l.length (by simp) (by simp;omega)).mono ?_;rintro e w2⟨⟨u,rfl⟩,h2,t2⟩;have H2:=Lib.hid h2;have T2:=Lib.hid t2;clear h2 t2;go_wp2
 go_end0
 exact⟨⟨_,rfl⟩,_,H2.out,T1.out.trans T2.out⟩
theorem mul64_one (n:Nat) (w:World) (hn:n<4294967296):Calls Tryz.prog 189 #[.int .u64 1,.int .u64 n] w fun e w'=>e=.returned (.tuple #[.int .u64 0,.int .u64 n])∧w=w':=by
 have b1:bits BinOp.and IntKind.u64 1 4294967295=1:=by decide+kernel
 have b0:bits BinOp.and IntKind.u64 0 4294967295=0:=by decide+kernel
 have bn:bits BinOp.and IntKind.u64 (n:Int) 4294967295=(n:Int):=by
  have h:=u64_and_nat n 4294967295 (by omega) (by omega)
  have e:n&&& 4294967295=n:=by
   have:(4294967295:Nat)=2 ^ 32 - 1:=by decide
   rw[this,Nat.and_two_pow_sub_one_eq_mod];exact Nat.mod_eq_of_lt (by omega)
  rw[e]at h;exact h
 have w0:IntKind.u64.wrap 0=0:=by decide+kernel
 have wn:IntKind.u64.wrap (n:Int)=(n:Int):=IntWalk.u64_in _ (by omega);have d0:(n:Int) / 4294967296=0:=by omega
 go_enter Tryz.func189,Tryz.ntmps189;go_wp2;go_ret2;simp
theorem mul_one_any (n:Nat) (w:World) (hn:n<4294967296):Calls Tryz.prog 165 #[.int .u64 1,.int .u64 n] w fun e w'=>e=.returned (.tuple #[.int .u64 0,.int .u64 n])∧w=w':=by
 have H:=mul64_one n w hn;have HH:=Lib.hid H;clear H;go_enter Tryz.func165,Tryz.ntmps165;go_wp2_with fail;refine HH.out.mono ?_;rintro e w'⟨rfl,rfl⟩;go_wp2;go_ret2;exact⟨rfl,rfl⟩
def negs (m n:Nat):List Value:=List.replicate m (.int .i64 (-1))++List.replicate (n - m) (.int .i64 0)
theorem negs_length {m n:Nat} (h:m≤n):(negs m n).length=n:=by simp[negs];omega
theorem negs_splice {m k n:Nat} (h:m+k≤n):splice (negs m n) m (List.replicate k (.int .i64 (-1)))=negs (m+k) n:=by
 unfold splice negs;rw[List.take_append_of_le_length (by simp),List.take_of_length_le (by simp),List.length_replicate,List.drop_append,List.drop_of_length_le (by simp),List.length_replicate,List.drop_replicate,List.nil_append,←List.append_assoc,List.replicate_append_replicate];congr 2;omega
theorem repeat_any {w:World} {s:Nat} (h:w.cell? ⟨s,0,none⟩=some (.int .i64 (-1))) (n:Nat) (hn:n≤16384) :
 Calls Tryz.prog 141 #[.slice (some ⟨s,0,none⟩) 1 1,.int .i64 n] w fun e w'=>∃v,e=.returned v∧w'.ownsRow w.heap.size 3 1 v n (List.replicate n (.int .i64 (-1)))∧Below w.heap.size w w':=by
 have wu:IntKind.u64.wrap (n:Int)=(n:Int):=IntWalk.u64_in _ (by omega);have wi:IntKind.i64.wrap (n:Int)=(n:Int):=IntWalk.i64_in _ (by omega);have hm:=mul_one_any n w (by omega);have HM:=Lib.hid hm;have n1:¬(n:Int)<0:=by omega
 have n2:¬(9223372036854775807:Int)<(n:Int):=by omega
 clear hm;go_enter Tryz.func141,Tryz.ntmps141;go_wp2_with fail;refine HM.out.mono ?_;rintro e w'⟨rfl,rfl⟩;obtain⟨i0,hi,hz0,hz1,hz2⟩:=info_parts info3';have hmk:=fun w=>run_make (P:=Tryz.prog) w 111 3 i0 (.int .i64 0) Tryz.underlying111 hi hz0 .i64 .i64 n n (by omega) (by omega) (by rw[hz2];omega) (by omega);simp only[hz1,Nat.mul_one,Int.toNat_natCast]at hmk;have hsz3:(Tryz.prog.info? 3).map (·.size)=some 1:=by kernel_rfl
 have hmc:madeCells (Value.int IntKind.i64 0).cells n=(negs 0 n).toArray:=by
  unfold madeCells negs;apply Array.ext
  ·simp
  ·intro i h1 h2
   simp at h1 h2⊢;simp[Value.cells,Nat.mod_one]
 simp only[hmc]at hmk;have hs:=World.block_lt_of_cell? _ _ h;obtain⟨N0,hN0⟩:∃N0,N0=negs 0 n:=⟨_,rfl⟩;rw[←hN0]at hmk;have hlen:N0.length=n:=by rw[hN0,negs_length (by omega)]
 obtain⟨cs,hcs⟩:∃cs:List Value,cs=List.replicate (min 1 n) (.int .i64 (-1)):=⟨_,rfl⟩;have hcl:cs.length=min 1 n:=by rw[hcs];simp
 have hg0:=heap_alloc_new w (.cells N0.toArray 3);have hb0:=Bel.new w (.cells N0.toArray 3)
 have hsrc:∀j v,cs[j]?=some v→(w.alloc (.cells N0.toArray 3)).cell? ((⟨s,0,none⟩:Addr).add j)=some v:=by
  intro j v hj;rw[hcs]at hj;have hj':=(List.getElem?_eq_some_iff.1 hj);obtain⟨hj1,hj2⟩:=hj';simp at hj1 hj2;obtain rfl:j=0:=by omega
  rw[←hj2];exact(hb0.cell (p:=⟨s,0,none⟩) hs).trans h
 have h1c:∀v∈cs,v.oneCell'=true:=by
  intro v hv;rw[hcs]at hv;rw[(List.mem_replicate.1 hv).2];rfl
 have HN0:=Lib.hid hN0;have HCS:=Lib.hid hcs;have hmn:min 1 n≤n:=Nat.min_le_right _ _;clear hmc hN0 hcs h
 go_wp2_with(((with_reducible refine wpList_copy_splice (o:=⟨some 33,.call {callee:=.builtin .copy,args:=#[.tmp 31,.tmp 32],argTypes:=#[111,111]},_,_,_,none⟩) rfl (.tmp 31) (.tmp 32) 111 111 rfl 3 Tryz.underlying111 hsz3 (some ⟨w.heap.size,0,none⟩) (some ⟨s,0,none⟩) n n 1 1 ?_ ?_ w.heap.size 0 N0 3 hg0 cs ?_ ?_ ?_ h1c w.heap.size w hb0 (Nat.le_refl _) ?_);rfl;rfl;exact hcl;exact fun _=>⟨rfl,_,rfl,hsrc⟩;(rw[hcl,hlen];omega);intro w1 hg1 hb1))
 have hlo:min 1 n=0→n=0:=by omega
 have hhi:min 1 n≤n:=hmn
 have hst:(Exists fun (_:w1.heap[w.heap.size]?=some (.cells (negs (min 1 n) n).toArray 3 (0,0)))=>True):=by
  refine⟨?_,trivial⟩;have:=hg1.out;rw[HN0.out,HCS.out,negs_splice (by omega),Nat.zero_add]at this;exact this
 have HST:=Lib.hid hst.1;have HB:=Lib.hid hb1;clear hst hg1 hb1 hsrc h1c hg0 hb0 hmk hcl hlen;obtain⟨g,hg⟩:∃g,g=w.heap.size:=⟨_,rfl⟩;have HST':=HST;rw[←hg]at HST'⊢;have HG:=Lib.hid hg;clear hg HST;generalize min 1 n=m0 at*
 go_loopw[8] (fun i wr=>∃m:Nat,i=.int .i64 m∧m≤n∧(m=0→n=0)∧wr.heap[g]?=some (.cells (negs m n).toArray 3 (0,0))∧Below g w wr) (fun i _=>n - (intOf i).toNat)
 case atStart=>exact⟨m0,rfl,hhi,hlo,HST'.out,by rw[HG.out];exact HB.out⟩
 case round=>
  obtain⟨m,rfl,hm1,hm2,hg1,hb1⟩:=hrel;by_cases hc:m<n
  ·obtain⟨k,hk⟩:∃k,k=min m (n - m):=⟨_,rfl⟩
   have hk1:m+k≤n:=by omega
   have hk2:0<k:=by omega
   have hkn:k=Nat.min m (n - m):=hk;have hcn:(m:Int)<(n:Int):=by omega
   have hcn1:(m:Int)≤(n:Int):=by omega
   have hm0:(0:Int)≤(m:Int):=by omega
   obtain⟨L,hL⟩:∃L,L=negs m n:=⟨_,rfl⟩;rw[←hL]at hg1;have hll:L.length=n:=by rw[hL,negs_length (by omega)]
   obtain⟨cs,hcs⟩:∃cs:List Value,cs=List.replicate k (.int .i64 (-1)):=⟨_,rfl⟩;have hcl:cs.length=k:=by rw[hcs];simp
   have hsrc:∀j v,cs[j]?=some v→(wr).cell? ((⟨g,0,none⟩:Addr).add j)=some v:=by
    intro j v hj;rw[hcs]at hj;obtain⟨hj1,hj2⟩:=(List.getElem?_eq_some_iff.1 hj);simp at hj1 hj2;rw[←hj2];have:(⟨g,0,none⟩:Addr).add j=⟨g,j,none⟩:=(by unfold Addr.add;simp[eq_comm]);rw[this];simp only[World.cell?,hg1]
    have h6:L[j]?=some (.int .i64 (-1)):=by
     rw[hL];unfold negs;rw[List.getElem?_append_left (by simp;omega),List.getElem?_replicate,if_pos (by omega)]
    simp[h6]
   have h1c:∀v∈cs,v.oneCell'=true:=by
    intro v hv;rw[hcs]at hv;rw[(List.mem_replicate.1 hv).2];rfl
   have hfin:splice L m cs=negs (m+k) n:=by rw[hL,hcs,negs_splice hk1]
   have HFIN:=Lib.hid hfin;have HKN:=Lib.hid hkn;have hnm:¬n=m:=by omega
   have hgd:wr.drew.heap[g]?=some (.cells L.toArray 3 (0,0)):=hg1;have hbd:Below g w wr.drew:=hb1.trans ⟨rfl,rfl,rfl,Nat.le_refl _,fun _ _=>rfl⟩;have hsrcd:∀j v,cs[j]?=some v→(wr.drew).cell? ((⟨g,0,none⟩:Addr).add j)=some v:=hsrc;clear hk hL hcs hkn hfin hsrc hg1 hb1;go_wp2_with fail
   go_region_law(refine step_copy_splice rfl (.tmp 41) (.tmp 44) 111 111 rfl 3 Tryz.underlying111 hsz3 (some ⟨g,m,none⟩) (some ⟨g,0,none⟩) (n - m) (n - m) m n (by simp[Act.eval,Act.put]) (by simp[Act.eval,Act.put]) g m L 3 hgd cs (hcl.trans HKN.out) (fun _=>⟨rfl,_,rfl,hsrcd⟩) (by rw[hcl,hll];exact hk1) h1c g w hbd (Nat.le_refl _) ?_;intro w4 hg4 hb4)
   have hw:IntKind.i64.wrap ((m:Int)+(k:Int))=((m+k:Nat):Int):=by rw[show(m:Int)+(k:Int)=((m+k:Nat):Int)from by omega];exact IntWalk.i64_in _ (by omega)
   rw[hw];have h4:=hg4.out;rw[HFIN.out]at h4;have H4:=Lib.hid h4;clear h4 hg4;simp[Act.put];go_wp2
   go_roundw
   case rel=>exact⟨m+k,rfl,hk1,fun h=>absurd h (by omega),H4.out,hb4⟩
   case measure=>simp[intOf];omega
  ·obtain rfl:m=n:=by omega
   have H1:=Lib.hid hg1;have HB1:=Lib.hid hb1;clear hg1 hb1;go_wp2;go_ret;refine⟨_,rfl,⟨by simp,.inr ⟨g,m,_,rfl,by rw[HG.out];exact Nat.le_refl _,H1.out,Nat.le_refl _,by unfold maxLen;omega,by simp[negs_length],?_⟩⟩,by have:=HB1.out;rwa [HG.out]at this⟩;simp[negs]
theorem encRes_all {l:List (Nat×Nat)} (h:(encRes l).2.2=0):∀k,k<l.length→errAt l k=0:=by
 have h16:¬16384<l.length:=fun e=>by have:=encRes_short h;omega
 intro k
 induction k using Nat.strongRecOn with
 | ind k ih=>
  intro hk;by_cases he:errAt l k=0
  ·exact he
  ·have:=encRes_bad h16 hk he (fun j hj=>ih j hj (by omega))
   rw[this]at h;exact absurd h he
theorem endsK_not {K:Nat} (h3:K≠3) (h4:K≠4) (h8:K≠8):endsK K=false:=by simp[endsK,h3,h4,h8]
theorem isOp_ok {o a:Nat} (h:checkN o a=0):isOp o=true:=by
 unfold checkN at h;cases hi:isOp o
 ·rw[hi]at h;simp at h
 ·rfl
section
variable {code:List (Nat×Nat)} {js ats:List Nat} (h:FindOk code js ats)
include h
theorem FindOk.tl:Tiles code code.length (psTo code code.length) (ofTo code code.length):=tiles h.h3.2 _
theorem FindOk.tg:Tgts (ofTo code code.length) js js.length (aimTo (ofTo code code.length) js (psTo code code.length).length js.length):=tgts (fun x hx=>h.tl.lt x (by rw[←h.tl.ol];exact hx)) _ h.hg
theorem FindOk.op (i:Nat) (hi:i<code.length):isOp (code.getD i (0,0)).1=true:=isOp_ok (encRes_all h.he i hi)
theorem FindOk.in_proc {r x:Nat} (hr:r<(psTo code code.length).length) (hx:insideN ((psTo code code.length).getD r (0,0,0)) x=true) :
 x<code.length∧(ofTo code code.length).getD x 0=r∧beginsN (psTo code code.length) (ofTo code code.length) x=false:=by
 unfold insideN at hx;rw[Bool.and_eq_true,decide_eq_true_eq,decide_eq_true_eq]at hx;have hb:=(h.tl.bd r hr).2;have ho:=h.tl.mid r hr x (by omega) hx.2;refine⟨by omega,ho,?_⟩;unfold beginsN;rw[ho];have:((psTo code code.length).getD r (0,0,0)).1≠x:=by omega
 rw[beq_eq_false_iff_ne.2 this,Bool.and_false]
theorem FindOk.target (i:Nat) (hi:i<code.length) (hk:kindOf (code.getD i (0,0)).1=3∨kindOf (code.getD i (0,0)).1=2) :
 (code.getD i (0,0)).2<code.length∧(ofTo code code.length).getD (code.getD i (0,0)).2 0=(ofTo code code.length).getD i 0∧beginsN (psTo code code.length) (ofTo code code.length) (code.getD i (0,0)).2=false:=by
 have hf:=h.hall i hi;refine h.in_proc (h.tl.lt i hi) ?_;unfold faultAt faultN faultK at hf;cases hx:insideN ((psTo code code.length).getD ((ofTo code code.length).getD i 0) (0,0,0)) (code.getD i (0,0)).2
 ·rw[hx]at hf
  rw[if_neg (by omega),if_neg (by omega),if_pos ⟨hk,rfl⟩]at hf;cases hf
 ·rfl
theorem FindOk.goes (i:Nat) (hi:i<code.length) (hk:kindOf (code.getD i (0,0)).1≠3∧kindOf (code.getD i (0,0)).1≠4∧kindOf (code.getD i (0,0)).1≠7∧kindOf (code.getD i (0,0)).1≠8) :
 i+1<code.length∧(ofTo code code.length).getD (i+1) 0=(ofTo code code.length).getD i 0:=by
 have hf:=h.hall i hi;have hr:=h.tl.lt i hi;have hl:=h.tl.lo i hi;have hb:=(h.tl.bd _ hr).2
 have hne:i+1≠((psTo code code.length).getD ((ofTo code code.length).getD i 0) (0,0,0)).2.1:=by
  intro he;unfold faultAt faultN faultK at hf
  split at hf
  ·cases hf
  ·rw[if_neg hk.2.2.1]at hf
   split at hf
   ·cases hf
   ·rw[if_pos ⟨he,endsK_not hk.1 hk.2.1 hk.2.2.2⟩]at hf
    cases hf
 have:=h.tl.mid _ hr (i+1) (by omega) (by omega);exact⟨by omega,this⟩
theorem FindOk.legal {x y:Nat} (hy:y∈(aimTo (ofTo code code.length) js (psTo code code.length).length js.length).getD ((ofTo code code.length).getD x 0) []) :
 y<code.length∧(ofTo code code.length).getD y 0=(ofTo code code.length).getD x 0∧beginsN (psTo code code.length) (ofTo code code.length) y=false:=by
 obtain⟨i,hi,he,ho⟩:=h.tg.of_mem _ _ hy;have:=h.hg i hi;simp only[aimOk,Bool.and_eq_true,decide_eq_true_eq]at this;obtain⟨-,h1,h2⟩:=this;rw[←he]at h1 h2;have hl:=h.in_proc (h.tl.lt y (by rw[←h.tl.ol];exact h1)) h2;exact⟨hl.1,ho,hl.2.2⟩
end
theorem FindOk.next_lt {code:List (Nat×Nat)} {js:List Nat} (h:FindOk code js []) {i t:Nat} (hi:i<code.length) (ht:t∈nextN code js i):t<code.length:=by
 unfold nextN opAt argAt at ht
 split at ht
 ·rename_i hk
  have:=(h.goes i hi (by omega)).1;rw[List.mem_singleton.1 ht];exact this
 ·split at ht
  ·rename_i hk
   have h1:=(h.goes i hi (by omega)).1;have h2:=(h.target i hi (.inr hk)).1
   split at ht
   ·rw[List.mem_singleton.1 ht];exact h1
   ·simp only[List.mem_cons,List.not_mem_nil,or_false]at ht
    rcases ht with rfl|rfl
    ·exact Nat.lt_of_le_of_lt (Nat.min_le_left _ _) h1
    ·exact Nat.max_lt.2 ⟨h1,h2⟩
  ·split at ht
   ·rename_i hk
    rw[List.mem_singleton.1 ht];exact(h.target i hi (.inl hk)).1
   ·split at ht
    ·unfold tgtsAt at ht
     split at ht
     ·rename_i hr
      have hl:=h.tl.lt i hi
      have e:(ofN (ofTo code code.length) i).toNat=(ofTo code code.length).getD i 0:=by
       unfold ofN at hr⊢
       split
       ·simp
       ·rename_i hq
        rw[if_neg hq]at hr;omega
      rw[e]at ht;exact(h.legal ht).1
     ·cases ht
    ·cases ht
def markN (n:Int):List Nat→List Int→List Nat→Option (List Int×List Nat)
 | [],D,P=>some (D,P)
 | t::ts,D,P=>if 0≤D.getD t (-1)∧D.getD t (-1)≠n then none else if D.getD t (-1)<0 then markN n ts (D.set t n) (t::P)else markN n ts D P
def minN:List Nat→Nat
 | []=>0
 | [x]=>x
 | x::y::l=>min x (minN (y::l))
def neg (D:List Int):Nat:=(D.filter (·<0)).length
def depFault (o:Nat) (d:Int):Nat:=
 if d<takesOf o then 140 else if 64<d - takesOf o+givesOf o then 141 else if kindOf o=7∧d≠1 then 143 else 0
def walkN (code:List (Nat×Nat)) (js:List Nat):Nat→List Int→List Nat→Int→List Int×Int×Nat×Nat
 | 0,D,_,m=>(D,m,0,0)
 | f+1,D,P,m=>
  if P=[]then(D,m,0,0)else
  if depFault (opAt code (minN P)) (D.getD (minN P) (-1))≠0 then(D,0,minN P,depFault (opAt code (minN P)) (D.getD (minN P) (-1)))else
  match markN (D.getD (minN P) (-1) - takesOf (opAt code (minN P))+givesOf (opAt code (minN P))) (nextN code js (minN P)) D (P.erase (minN P))with
  | none=>(D,0,minN P,142)
  | some (D',P')=>walkN code js f D' P' (max (max m (D.getD (minN P) (-1))) (D.getD (minN P) (-1) - takesOf (opAt code (minN P))+givesOf (opAt code (minN P))))
theorem minN_mem:∀{l:List Nat},l≠[]→minN l∈l
 | [],h=>absurd rfl h
 | [x],_=>by simp[minN]
 | x::y::l,_=>by
  have:=minN_mem (l:=y::l) (by simp);unfold minN;rcases Nat.le_total x (minN (y::l))with h|h
  ·rw[Nat.min_eq_left h];simp
  ·rw[Nat.min_eq_right h];exact List.mem_cons_of_mem _ this
theorem minN_le:∀{l:List Nat} {x:Nat},x∈l→minN l≤x
 | [],_,h=>by cases h
 | [y],x,h=>by simp at h;simp[minN,h]
 | y::z::l,x,h=>by
  unfold minN;rcases List.mem_cons.1 h with rfl|h
  ·exact Nat.min_le_left _ _
  ·exact Nat.le_trans (Nat.min_le_right _ _) (minN_le h)
theorem minN_unique {l:List Nat} {x:Nat} (hx:x∈l) (h:∀y∈l,x≤y):minN l=x:=by
 have h1:=minN_le hx;have h2:=h _ (minN_mem (List.ne_nil_of_mem hx));omega
theorem minN_perm {l l':List Nat} (h:l.Perm l'):minN l=minN l':=by
 by_cases hl:l'=[]
 ·subst hl;rw[h.eq_nil]
 ·exact minN_unique (h.mem_iff.2 (minN_mem hl)) (fun y hy=>minN_le (h.mem_iff.1 hy))
theorem markN_perm (n:Int) (ts:List Nat):∀(D:List Int) {P P':List Nat},P.Perm P'→(markN n ts D P=none∧markN n ts D P'=none)∨∃D' Q Q',markN n ts D P=some (D',Q)∧markN n ts D P'=some (D',Q')∧Q.Perm Q':=by
 induction ts with
 | nil=>intro D P P' h;exact .inr ⟨D,P,P',rfl,rfl,h⟩
 | cons t ts ih=>
  intro D P P' h;unfold markN;by_cases h1:0≤D.getD t (-1)∧D.getD t (-1)≠n
  ·rw[if_pos h1,if_pos h1];exact .inl ⟨rfl,rfl⟩
  ·rw[if_neg h1,if_neg h1]
   by_cases h2:D.getD t (-1)<0
   ·rw[if_pos h2,if_pos h2];exact ih _ (h.cons t)
   ·rw[if_neg h2,if_neg h2];exact ih _ h
theorem walkN_perm (code:List (Nat×Nat)) (js:List Nat) (f:Nat):∀(D:List Int) {P P':List Nat} (m:Int),P.Perm P'→walkN code js f D P m=walkN code js f D P' m:=by
 induction f with
 | zero=>intro D P P' m h;rfl
 | succ f ih=>
  intro D P P' m h;unfold walkN;have hm:=minN_perm h;by_cases hp:P=[]
  ·subst hp
   rw[h.symm.eq_nil]
  ·have hp':P'≠[]:=fun e=>hp (by rw[e]at h;exact h.eq_nil)
   rw[if_neg hp,if_neg hp',hm];by_cases hf:depFault (opAt code (minN P')) (D.getD (minN P') (-1))≠0
   ·rw[if_pos hf,if_pos hf]
   ·rw[if_neg hf,if_neg hf]
    rcases markN_perm (D.getD (minN P') (-1) - takesOf (opAt code (minN P'))+givesOf (opAt code (minN P'))) (nextN code js (minN P')) D (h.erase (minN P'))with⟨h1,h2⟩|⟨D',Q,Q',h1,h2,h3⟩
    ·rw[h1,h2]
    ·rw[h1,h2];exact ih _ _ h3
def encZ (D:List Int):List Value:=D.map fun x=>.int .i64 x
theorem encZ_length (D:List Int):(encZ D).length=D.length:=by simp[encZ]
theorem encZ_set (D:List Int) (t:Nat) (x:Int):(encZ D).set t (.int .i64 x)=encZ (D.set t x):=by simp[encZ,List.map_set]
theorem own_int {W:World} {B g c:Nat} {D:List Int} {n:Nat} (h:W.ownsRow B 3 1 (.slice (some ⟨g,0,none⟩) n c) n (encZ D)) {t:Nat} (ht:t<n):W.cell? ⟨g,t,none⟩=some (.int .i64 (D.getD t (-1))):=by
 have hl:n=D.length:=by have:=h.1;rw[encZ_length]at this;omega
 rw[h.cellAt t (by omega)];subst hl;simp[encZ,List.getElem?_map,List.getElem?_eq_getElem ht,List.getD]
theorem own_ilen {W:World} {B:Nat} {v:Value} {D:List Int} {n:Nat} (h:W.ownsRow B 3 1 v n (encZ D)):D.length=n:=by
 have:=h.1;rw[encZ_length]at this;omega
def negV:Value→Bool
 | .int .i64 x=>decide (x<0)
 | _=>false
theorem negV_enc (D:List Int):((encZ D).filter negV).length=neg D:=by
 unfold neg encZ
 induction D with
 | nil=>rfl
 | cons x D ih=>
  simp only[List.map_cons,List.filter_cons,negV];by_cases h:x<0
  ·simp[h,ih]
  ·simp[h,ih]
def musl (W:World) (p g n:Nat):Nat:=
 (match W.cell? ⟨p,0,none⟩with|some (.slice _ k _)=>k|_=>0)+(match W.heap[g]? with|some (.cells cs _ _)=>((cs.toList.take n).filter negV).length|_=>0)
theorem musl_at {W:World} {B B' p g c n:Nat} {v:Value} {l:List Nat} {D:List Int} (h:HpAt W B p v l) (hD:W.ownsRow B' 3 1 (.slice (some ⟨g,0,none⟩) n c) n (encZ D)):musl W p g n=l.length+neg D:=by
 unfold musl;obtain⟨a,c',hv,-⟩:=own_sl h.o;rw[h.c,hv];rcases hD.2 with⟨hv',_⟩|⟨g',c'',cur,hv',-,hg,-,-,-,ht⟩
 ·cases hv'
 ·cases hv'
  rw[hg];rw[Nat.mul_one]at ht;simp only[ht,negV_enc]
theorem HpAt.below {W W':World} {B p:Nat} {v:Value} {l:List Nat} (h:HpAt W B p v l) (hb:Below W.heap.size W W'):HpAt W' B p v l:=by
 have hl:=World.block_lt_of_cell? _ _ h.c;exact⟨(hb.cell (p:=⟨p,0,none⟩) hl).trans h.c,(hb.frozen (p:=⟨p,0,none⟩) hl).trans h.f,own_below h.o hb,h.ne,h.hp⟩
theorem HpAt.setOther {W:World} {B p:Nat} {v:Value} {l:List Nat} (h:HpAt W B p v l) (g t:Nat) (hg:g<B) (u:Value):HpAt (W.setCell ⟨g,t,none⟩ u) B p v l:=by
 have hp:=h.hp;have hne:¬(⟨g,t,none⟩:Addr).block=p:=fun e=>by simp at e;omega
 refine⟨?_,by rw[World.frozen?_setCell];exact h.f,ownsRow_setCell_other h.o (a:=⟨g,t,none⟩) (fun e=>?_) _,h.ne,h.hp⟩
 ·have:(W.setCell ⟨g,t,none⟩ u).heap[p]?=W.heap[p]?:=Below.heap_setCell _ _ _ _ (fun e=>hne e.symm)
  exact(World.cell?_of_block (a:=⟨p,0,none⟩) this).trans h.c
 ·have:=h.o.lt _ e
  simp at this;omega
theorem HpTo.own {W W':World} {p B B' e sz g n c:Nat} {v v':Value} {l:List Nat} {xs:List Value} (ht:HpTo W W' p v v') (h:HpAt W B p v l) (hD:W.ownsRow B' e sz (.slice (some ⟨g,0,none⟩) n c) n xs) (hg:g<B):W'.ownsRow B' e sz (.slice (some ⟨g,0,none⟩) n c) n xs:=by
 refine⟨hD.1,?_⟩;rcases hD.2 with hn|⟨g',cap,cur,hv,hb,hgg,rest⟩
 ·exact .inl hn
 ·refine .inr ⟨g',cap,cur,hv,hb,?_,rest⟩
  cases hv;have hlt:g<W.heap.size:=(hD.lt g rfl).2;rw[ht.block g hlt (by have:=h.hp;omega) (fun e=>by have:=h.o.lt _ e;omega)];exact hgg
theorem HpTo.cell {W W':World} {p B q:Nat} {v v':Value} {l:List Nat} (ht:HpTo W W' p v v') (hq:q<W.heap.size) (hp:q≠p) (hv:v.ownBlock≠some q) (t:Nat):W'.cell? ⟨q,t,none⟩=W.cell? ⟨q,t,none⟩:=
 World.cell?_of_block (a:=⟨q,t,none⟩) (ht.block q hq hp hv)
def Deps (D:List Int):Prop:=∀t,-1≤D.getD t (-1)∧D.getD t (-1)≤64
theorem getD_setZ (D:List Int) (t k:Nat) (x:Int):(D.set t x).getD k (-1)=if k=t∧t<D.length then x else D.getD k (-1):=by
 rw[List.getD_eq_getElem?_getD,List.getD_eq_getElem?_getD,List.getElem?_set];by_cases h:t=k
 ·subst h
  by_cases hl:t<D.length
  ·simp[hl]
  ·simp[hl]
 ·rw[if_neg h,if_neg (fun e=>h e.1.symm)]
theorem Deps.set {D:List Int} (h:Deps D) (t:Nat) {x:Int} (h0:-1≤x) (h1:x≤64):Deps (D.set t x):=by
 intro k;rw[getD_setZ]
 split
 ·exact⟨h0,h1⟩
 ·exact h k
theorem neg_set {D:List Int} {t:Nat} {x:Int} (ht:t<D.length) (h:D.getD t (-1)<0) (hx:0≤x):neg (D.set t x)+1=neg D:=by
 induction D generalizing t with
 | nil=>simp at ht
 | cons y D ih=>
  cases t with
  | zero=>
   have hy:y<0:=by simpa[List.getD]using h
   have hx':¬x<0:=by omega
   simp[neg,hy,hx']
  | succ t=>
   have:=ih (t:=t) (by simpa using ht) (by simpa[List.getD]using h);unfold neg at this⊢;simp only[List.set_cons_succ,List.filter_cons]
   split<;>first|(simp only[List.length_cons];omega)|omega
theorem neg_le (D:List Int):neg D≤D.length:=List.length_filter_le _ _
theorem takes_le (o:Nat):takesOf o≤64∧givesOf o≤64:=by
 by_cases h:o<60
 ·have:∀o<60,takesOf o≤64∧givesOf o≤64:=by decide+kernel
  exact this o h
 ·have:rowOf o=([],0,0,0,0,0):=by
   unfold rowOf;rw[List.getD_eq_getElem?_getD,List.getElem?_eq_none (by show 60≤o;omega)];rfl
  unfold takesOf givesOf;rw[this];decide
theorem grown_belowB {w w':World} {B g:Nat} (hg:w.grownBy w' (some g)) (hB:B≤w.heap.size) (hgB:B≤g):Below B w w':=
 ⟨hg.os,hg.tape,hg.output,hg.size,fun k hk=>hg.block k (by omega) (fun e=>by cases e;omega)⟩
theorem cell_al {W:World} {a:Addr} {v:Value} (h:W.cell? a=some v) (o:Obj):(W.alloc o).cell? a=some v:=by
 have hl:=World.block_lt_of_cell? _ _ h;exact(World.cell?_of_block (Below.heap_alloc _ _ _ hl)).trans h
def mx3 (x y z:Int):Int:=max (max x y) z
theorem run_mx3 (P:Program) (ts:Array TypeId) (t:TypeId) (x y z:Int) (w:World):(Builtin.max_ ts t #[.int .i64 x,.int .i64 y,.int .i64 z]).run P w=.ok (.int .i64 (mx3 x y z)) w:=by
 have h2:=fun (a b:Int)=>run_max_int2 (P:=P) w ts t .i64 .i64 a b
 have e:(Builtin.max_ ts t #[.int .i64 x,.int .i64 y,.int .i64 z])=(do let u←Builtin.max_ ts t #[.int .i64 x,.int .i64 y];Builtin.max_ ts t #[u,.int .i64 z]):=by
  simp[Builtin.max_]
 rw[e,Sem.run_bind,h2];simp only[Result.andThen_ok,h2];congr 2;unfold mx3
 split<;>split<;>omega
attribute [local go_sem ↓ high] run_mx3
theorem cells421 {W:World} {q:Nat} {a b c d e f:Value} {t:TypeId} (h:W.heap[q]?=some (.cells #[a,b,c,d,e,f] t (0,0))):W.cell? ⟨q,0,none⟩=some a∧W.cell? ⟨q,1,none⟩=some b∧W.cell? ⟨q,2,none⟩=some c∧W.cell? ⟨q,3,none⟩=some d∧W.cell? ⟨q,4,none⟩=some e∧W.cell? ⟨q,5,none⟩=some f∧∀k,W.frozen? ⟨q,k,none⟩=false:=by
 refine⟨by simp[World.cell?,h],by simp[World.cell?,h],by simp[World.cell?,h],by simp[World.cell?,h],by simp[World.cell?,h],by simp[World.cell?,h],fun k=>by simp[World.frozen?,h]⟩
theorem row_of_alloc {w1 w5:World} {o:Obj} (h:Below (w1.alloc o).drew.heap.size (w1.alloc o).drew w5):w5.heap[w1.heap.size]?=some o:=
 (h.block w1.heap.size (by simp)).trans (heap_alloc_new w1 o)
theorem six {W:World} {q:Nat} {a b c d e f a' b' c' d' e' f':Value} (h3:W.cell? ⟨q,3,none⟩=some d) (h4:W.cell? ⟨q,4,none⟩=some e) (h5:W.cell? ⟨q,5,none⟩=some f) :
 let W6:=(((((W.setCell ⟨q,0,none⟩ a').setCell ⟨q,1,none⟩ b').setCell ⟨q,2,none⟩ c').setCell ⟨q,3,none⟩ d').setCell ⟨q,4,none⟩ e').setCell ⟨q,5,none⟩ f'
 W6.cell? ⟨q,3,none⟩=some d'∧W6.cell? ⟨q,4,none⟩=some e'∧W6.cell? ⟨q,5,none⟩=some f':=by
 refine⟨by simp[go_sem,h3],by simp[go_sem,h4],by simp[go_sem,h5]⟩
theorem sixN (W:World) (a b c d e f:Value) (t:TypeId):(W.alloc (.cells #[a,b,c,d,e,f] t)).cell? ⟨W.heap.size,3,none⟩=some d∧(W.alloc (.cells #[a,b,c,d,e,f] t)).cell? ⟨W.heap.size,4,none⟩=some e∧(W.alloc (.cells #[a,b,c,d,e,f] t)).cell? ⟨W.heap.size,5,none⟩=some f:=
 ⟨by simp[go_sem],by simp[go_sem],by simp[go_sem]⟩
theorem HpTo.grown {w wr w1:World} {p g:Nat} {v v':Value} {l:List Nat} (hg:w.grownBy wr (some g)) (hh:HpAt wr w.heap.size p v l) (ht:HpTo wr w1 p v v'):w.grownBy w1 (some g):=
 ⟨ht.os.trans hg.os,ht.tape.trans hg.tape,ht.output.trans hg.output,Nat.le_trans hg.size ht.size,fun k hk hne=>(ht.block k (Nat.lt_of_lt_of_le hk hg.size) (by have:=hh.hp;omega) (fun e=>by have:=(hh.o.lt k e).1;omega)).trans (hg.block k hk hne)⟩
theorem next_len {code:List (Nat×Nat)} {js:List Nat} (h:FindOk code js []) (i:Nat):(nextN code js i).length≤16384:=by
 unfold nextN
 split
 ·simp
 ·split
  ·split<;>simp
  ·split
   ·simp
   ·split
    ·unfold tgtsAt
     split
     ·exact h.rows _
     ·simp
    ·simp
theorem bs567n (x:Int) (w:World):(Instr.buildSlice 245 1 #[(0,.int .i64 x)]).run Tryz.prog w=.ok (.slice (some ⟨w.heap.size,0,none⟩) 1 1) (w.alloc (.cells #[.int .i64 x] 3)):=bs567 x w
theorem walk_any {w0 w:World} {B gg bb:Nat} {uc uj:Value} {code:List (Nat×Nat)} {js:List Nat} (hG:GraphAt w0 B gg bb uc uj code js) (hb:Below w0.heap.size w0 w) (hok:FindOk code js [])
 (hlt:∀k,(code.getD k (0,0)).1<256∧(code.getD k (0,0)).2<4294967296) {g c:Nat} {D:List Int} (hD:w.ownsRow w0.heap.size 3 1 (.slice (some ⟨g,0,none⟩) code.length c) code.length (encZ D)) (hDb:Deps D) (a:Nat) (ha:a<code.length) :
 Calls Tryz.prog 143 #[.pointer (some ⟨gg,0,none⟩),.int .i64 a,.slice (some ⟨g,0,none⟩) code.length c] w fun e w'=>
  ∃D',e=.returned (.tuple #[.int .i64 (walkN code js (code.length+1) (D.set a 0) [a] 0).2.1,.int .i64 (walkN code js (code.length+1) (D.set a 0) [a] 0).2.2.1,.int .i64 (walkN code js (code.length+1) (D.set a 0) [a] 0).2.2.2])∧
  w'.ownsRow w0.heap.size 3 1 (.slice (some ⟨g,0,none⟩) code.length c) code.length (encZ D')∧Deps D'∧w.grownBy w' (some g)∧((walkN code js (code.length+1) (D.set a 0) [a] 0).2.2.2=0→D'=(walkN code js (code.length+1) (D.set a 0) [a] 0).1):=by
 obtain⟨R,hR⟩:∃R,R=walkN code js (code.length+1) (D.set a 0) [a] 0:=⟨_,rfl⟩;rw[←hR];have hDl:=own_ilen hD;have hcl:=encRes_short hok.he;have hgl:g<w.heap.size:=(hD.lt g rfl).2;have hgb:w0.heap.size≤g:=(hD.lt g rfl).1;have HR:=Lib.hid hR;have H:=Lib.hid hD;have hai:(a:Int)<(code.length:Int):=by omega
 have ha0:(0:Int)≤(a:Int):=by omega
 have hbs:=bs567n;have hne:w.heap.size≠g:=by omega
 have hne2:w.heap.size+1≠g:=by omega
 have hc1:∃u,w.cell? ⟨g,a,none⟩=some u:=⟨_,own_int hD ha⟩;obtain⟨u0,hu0⟩:=hc1;have hf0:=hD.frozenAt a;clear hD hR;go_enter Tryz.func143,Tryz.ntmps143;go_wp2_with fail;refine wp_scope_straight ?_;go_wp2_with fail;refine wp_label ?_;have f1:=(H.out.stored a (.int .i64 0));rw[encZ_set]at f1;have F1:=Lib.hid (own_below (own_below f1.1 (Bel.new _ (.cells #[.int .i64 a] 3))) (Bel.new _ (.cells #[.slice (some ⟨w.heap.size,0,none⟩) 1 1] 245)))
 have F2:HpAt (((w.setCell ⟨g,a,none⟩ (.int .i64 0)).alloc (.cells #[.int .i64 a] 3)).alloc (.cells #[.slice (some ⟨w.heap.size,0,none⟩) 1 1] 245)) w.heap.size (w.heap.size+1) (.slice (some ⟨w.heap.size,0,none⟩) 1 1) [a]:=by
  refine⟨by simp[go_sem],by simp[go_sem],⟨rfl,.inr ⟨w.heap.size,1,#[.int .i64 a],rfl,Nat.le_refl _,?_,Nat.le_refl _,by decide,rfl,rfl⟩⟩,?_,by omega⟩
  ·rw[Below.heap_alloc _ _ _ (by simp)]
   have:=heap_alloc_new (w.setCell ⟨g,a,none⟩ (.int .i64 0)) (.cells #[.int .i64 a] 3)
   simpa using this
  ·intro e;simp only[Value.ownBlock,Option.some.injEq]at e;omega
 have F3:=Lib.hid (grownBy_trans (grownBy_trans f1.2 (World.grownBy_alloc _ (.cells #[.int .i64 a] 3) none) (fun k e=>by cases e)) (World.grownBy_alloc _ (.cells #[.slice (some ⟨w.heap.size,0,none⟩) 1 1] 245) none) (fun k e=>by cases e));have HF2:=Lib.hid F2;clear F2 f1 H;generalize (((w.setCell ⟨g,a,none⟩ (.int .i64 0)).alloc (.cells #[.int .i64 a] 3)).alloc (.cells #[.slice (some ⟨w.heap.size,0,none⟩) 1 1] 245))=W1 at*;have hD0:Deps (D.set a 0):=hDb.set a (by decide) (by decide)
 have hn0:neg (D.set a 0)≤code.length:=by
  have:=neg_le (D.set a 0);rw[List.length_set,hDl]at this;exact this
 have hd0:0≤(D.set a 0).getD a (-1):=by rw[getD_setZ,if_pos ⟨rfl,by omega⟩];decide
 generalize D.set a 0=D0 at*;clear hu0 hf0 hDb;go_wp2_with fail
 go_loopw[10,12] (fun xm xe wr=>∃(f:Nat) (m:Int) (Dm:List Int) (l:List Nat) (v:Value),xm=.int .i64 m∧xe=.int .i64 0∧wr.ownsRow w0.heap.size 3 1 (.slice (some ⟨g,0,none⟩) code.length c) code.length (encZ Dm)∧
  HpAt wr w.heap.size (w.heap.size+1) v l∧w.grownBy wr (some g)∧IsHeap l∧Deps Dm∧(∀i∈l,i<code.length∧0≤Dm.getD i (-1))∧l.length+neg Dm≤f∧f≤code.length+1∧walkN code js f Dm l m=R) (fun _ _ w'=>musl w' (w.heap.size+1) g code.length)
 case atStart=>exact⟨code.length+1,0,D0,[a],_,rfl,rfl,F1.out,HF2.out,F3.out,fun k hk0 hk=>by simp at hk;omega,hD0,fun i hi=>by rw[List.mem_singleton.1 hi];exact⟨ha,hd0⟩,by simp;omega,Nat.le_refl _,HR.out.symm⟩
 case round=>
  obtain⟨f,m,Dm,l,v,rfl,rfl,hown,hhp,hgr,hheap,hdep,hin,hf1,hf2,hw⟩:=hrel;obtain⟨hva,hvc,hv,-⟩:=own_sl hhp.o;subst hv;have hpc:=hhp.c;have HOWN:=Lib.hid hown;have HHP:=Lib.hid hhp;have HGR:=Lib.hid hgr;have HW:=Lib.hid hw;by_cases hl0:l.length=0
  ·have hle:l=[]:=List.eq_nil_of_length_eq_zero hl0
   subst hle
   have hRm:R=(Dm,m,0,0):=by
    rw[←HW.out];cases f<;>simp[walkN]
   have HRM:=Lib.hid hRm;clear hown hhp hgr hw hRm HR hn0 hd0 hD0
   go_wp2_with(go_at_call 167;refine(len_any _ _ _ _).mono ?_;rintro e w'⟨rfl,rfl⟩)
   try simp only[Exit.noGoto]
   go_ret3
   rw[HRM.out];exact⟨Dm,rfl,HOWN.out,hdep,HGR.out,fun _=>rfl⟩
  ·obtain⟨f,rfl⟩:∃f',f=f'+1:=⟨f - 1,by omega⟩
   have hlen:l.length≤16385:=by omega
   have hl1:0<l.length:=by omega
   have hmin:minN l=l.getD 0 0:=by
    refine minN_unique (l:=l) ?_ (fun y hy=>popL_least hheap hy);have e:l.getD 0 0=l[0]:=(by rw[List.getD_eq_getElem?_getD,List.getElem?_eq_getElem hl1];rfl);rw[e];exact List.getElem_mem _
   have hpop:=popL_perm hl1;have hph:=popL_heap hheap hl1;have hne0:l≠[]:=fun e=>hl0 (by rw[e];rfl);have hmem:=minN_mem hne0;obtain⟨x,hx⟩:∃x,x=l.getD 0 0:=⟨_,rfl⟩;have hPop:=pop_h hhp hl1 (by omega);rw[←hx]at hPop hmin hpop;rw[hmin]at hmem;have hxi:=hin x hmem
   have hperm:(l.erase x).Perm (popL l):=by
    have:=(hpop.symm.erase x);rwa [List.erase_cons_head]at this
   have hpin:∀i∈popL l,i∈l:=fun i hi=>hpop.mem_iff.1 (List.mem_cons_of_mem _ hi);have hwx:=hw;unfold walkN at hwx;rw[if_neg hne0,hmin]at hwx;have hpl:(popL l).length=l.length - 1:=popL_length l;obtain⟨d,hd⟩:∃d,d=Dm.getD x (-1):=⟨_,rfl⟩;have hdx:=hdep x;rw[←hd]at hdx hxi hwx;have HPOP:=Lib.hid hPop;have HWX:=Lib.hid hwx;have HPERM:=Lib.hid hperm;have HD:=Lib.hid hd;have hgt:(0:Int)<(l.length:Int):=by omega
   have hmi:=fun W=>(rfl:(Instr.makeInterface 244 (.pointer (some ⟨w.heap.size+1,0,none⟩))).run Tryz.prog W=(Instr.makeInterface 244 (.pointer (some ⟨w.heap.size+1,0,none⟩))).run Tryz.prog W);have hta:=ta3;clear hown hhp hgr hw HR hn0 hd0 hD0 hPop hwx hperm hpop hmin hmem hheap HW hd hx hmi
   go_wp2_with(go_at_call 167;refine(len_any _ _ _ _).mono ?_;rintro e w'⟨rfl,rfl⟩)
   refine HPOP.out.mono ?_;rintro e w1⟨rfl,v1,hh1,ht1⟩;have hbw:Below w0.heap.size w0 wr:=hb.trans (grown_belowB HGR.out hb.size hgb);have hb1:Below w0.heap.size w0 w1:=hbw.trans (ht1.below hbw.size (by have:=hb.size;omega) (fun q e=>by have:=HHP.out.o.lt q e;have:=hb.size;omega));have ho1:=ht1.own HHP.out HOWN.out hgl;have hg1:w.grownBy w1 (some g):=HpTo.grown HGR.out HHP.out ht1;have HG1:=Lib.hid (hG.below hb1);have HH1:=Lib.hid hh1;have HT1:=Lib.hid ht1;have HO1:=Lib.hid ho1;have HB1:=Lib.hid hb1;have HGR1:=Lib.hid hg1;clear hh1 ht1 ho1 hb1 hg1 hbw;have hcx:w1.cell? ⟨g,x,none⟩=some (.int .i64 d):=by rw[HD.out];exact own_int HO1.out hxi.1
   have HS0:=Lib.hid (show w1.drew.cell? ⟨g,x,none⟩=some (.int .i64 d)∧Below w1.heap.size w1 w1.drew from⟨hcx,(Below.refl _ _).drew⟩)
   have HINF:=Lib.hid (fun (W:World) (hS:W.cell? ⟨g,x,none⟩=some (.int .i64 d)∧Below w1.heap.size w1 W)=>(show Calls Tryz.prog 169 #[.pointer (some ⟨gg,0,none⟩),.int .i64 x] W fun e w'=>e=.returned (rowVal (opAt code x))∧(w'.cell? ⟨g,x,none⟩=some (.int .i64 d)∧Below w1.heap.size w1 w')∧Below W.heap.size W w' from
    (ginfo_any (HG1.out.below hS.2) x hxi.1 (hlt x).1).mono fun e w' h=>⟨h.1,⟨(h.2.cell (p:=⟨g,x,none⟩) (World.block_lt_of_cell? _ _ hS.1)).trans hS.1,Bel.tr hS.2 h.2⟩,h.2⟩))
   have HK:=Lib.hid (fun (W:World) (o:Obj) (hS:W.cell? ⟨g,x,none⟩=some (.int .i64 d)∧Below w1.heap.size w1 W)=>(show(W.alloc o).cell? ⟨g,x,none⟩=some (.int .i64 d)∧Below w1.heap.size w1 (W.alloc o)from⟨cell_al hS.1 o,Bel.al hS.2 o⟩));have HKa:=Lib.hid (fun (o:Obj)=>(show(w1.alloc o).drew.cell? ⟨g,x,none⟩=some (.int .i64 d)∧Below w1.heap.size w1 (w1.alloc o).drew from⟨cell_al hcx o,(Bel.new w1 o).drew⟩));have hxl:g<w1.heap.size:=by have:=HGR1.out.size;omega
   have HK2:=Lib.hid (fun (W:World) (k:Nat) (u:Value) (hS:W.cell? ⟨g,x,none⟩=some (.int .i64 d)∧Below w1.heap.size w1 W)=>(show(W.setCell ⟨w1.heap.size,k,none⟩ u).cell? ⟨g,x,none⟩=some (.int .i64 d)∧Below w1.heap.size w1 (W.setCell ⟨w1.heap.size,k,none⟩ u)from
    ⟨(World.cell?_setCell_other _ _ _ _ (by first|(simp;done)|(simp;omega))).trans hS.1,hS.2.trans ⟨rfl,rfl,rfl,by rw[World.size_setCell];exact Nat.le_refl _,fun j hj=>Below.heap_setCell _ _ _ _ (by simp;omega)⟩⟩))
   unfold rowVal rowCells at HINF;have htg:=takes_le (opAt code x);unfold depFault at HWX;generalize kindOf (opAt code x)=K at*;generalize opAt code x=o at*;generalize wordOf o=wd at*;generalize widthOf o=wi at*;generalize mostOf o=mo at*;generalize takesOf o=ta at*;generalize givesOf o=gi at*;have hxn:(x:Int)<(code.length:Int):=by omega
   have hx0:(0:Int)≤(x:Int):=by omega
   clear hcx;have hz:=zero26;unfold zeroRow at hz;go_wp2_with fail
   go_region_held3(fun w'=>w'.cell? ⟨g,x,none⟩=some (.int .i64 d)∧Below w1.heap.size w1 w')
    (first|(with_reducible assumption)|(with_reducible exact HS0.out)|(with_reducible exact HKa.out _)|(with_reducible exact HK.out _ _ (by assumption))|(with_reducible exact HK2.out _ 5 _ (HK2.out _ 4 _ (HK2.out _ 3 _ (HK2.out _ 2 _ (HK2.out _ 1 _ (HK2.out _ 0 _ (by assumption))))))))
    (first|(go_at_call 169;refine(HINF.out _ ?_).mono ?_;assumption;rintro e w5⟨rfl,hS5,hb5⟩;with_reducible have hrow:=row_of_alloc hb5;have hcs:=cells421 hrow;clear hrow;obtain⟨hq0,hq1,hq2,hq3,hq4,hq5,hfr⟩:=hcs;have hf0:=hfr 0;have hf1:=hfr 1;have hf2:=hfr 2;have hf3:=hfr 3;have hf4:=hfr 4;have hf5:=hfr 5;clear hfr hb5)|(go_at_call 169;refine(HINF.out _ ?_).mono ?_;assumption;rintro e w5⟨rfl,hS5,hb5⟩;clear hb5)|fail)
   all_goals
    first
    | (have h6:=six (a:=.int .i64 0) (b:=.int .i64 0) (c:=.int .i64 0) (a':=.string ⟨wd.toArray⟩) (b':=.int .i64 wi) (c':=.int .u32 mo) (d':=.int .i64 ta) (e':=.int .i64 gi) (f':=.int .u8 K) hq3 hq4 hq5
       have hb6:=(HK2.out _ 5 (.int .u8 K) (HK2.out _ 4 (.int .i64 gi) (HK2.out _ 3 (.int .i64 ta) (HK2.out _ 2 (.int .u32 mo) (HK2.out _ 1 (.int .i64 wi) (HK2.out _ 0 (.string ⟨wd.toArray⟩) hS5)))))).2;clear hq0 hq1 hq2 hq3 hq4 hq5 hf0 hf1 hf2 hf3 hf4 hf5;generalize ((((((w5.setCell {block:=w1.heap.size,off:=0} (Value.string {data:=wd.toArray})).setCell {block:=w1.heap.size,off:=1} (Value.int IntKind.i64 ↑wi)).setCell {block:=w1.heap.size,off:=2} (Value.int IntKind.u32 ↑mo)).setCell {block:=w1.heap.size,off:=3} (Value.int IntKind.i64 ↑ta)).setCell {block:=w1.heap.size,off:=4} (Value.int IntKind.i64 ↑gi)).setCell {block:=w1.heap.size,off:=5} (Value.int IntKind.u8 ↑K))=W6 at*;obtain⟨q,hq⟩:∃q,q=w1.heap.size:=⟨_,rfl⟩;have hqge:w1.heap.size≤q:=(by omega);rw[←hq]at h6⊢;have HQ:=Lib.hid hq
       clear hq)
    | (have h6:=sixN w5 (.string ⟨wd.toArray⟩) (.int .i64 wi) (.int .u32 mo) (.int .i64 ta) (.int .i64 gi) (.int .u8 K) 208
       have hb6:=(HK.out _ (.cells #[.string ⟨wd.toArray⟩,.int .i64 wi,.int .u32 mo,.int .i64 ta,.int .i64 gi,.int .u8 K] 208) hS5).2;generalize (w5.alloc (Obj.cells #[Value.string {data:=wd.toArray},Value.int IntKind.i64 ↑wi,Value.int IntKind.u32 ↑mo,Value.int IntKind.i64 ↑ta,Value.int IntKind.i64 ↑gi,Value.int IntKind.u8 ↑K] 208))=W6 at*;obtain⟨q,hq⟩:∃q,q=w5.heap.size:=⟨_,rfl⟩;have hqge:w1.heap.size≤q:=(by have:=hS5.2.size;omega);rw[←hq]at h6⊢;have HQ:=Lib.hid hq
       clear hq)
    obtain⟨hc3,hc4,hc5⟩:=h6;have HB6:=Lib.hid hb6;clear hS5 hb6;have HO6:=Lib.hid (own_below HO1.out HB6.out);have HGR6:=Lib.hid (HGR1.out.trans (below_grownBy HB6.out (some g)));have HH6:=Lib.hid (HH1.out.below HB6.out);have HG6:=Lib.hid (HG1.out.below HB6.out);by_cases c1:d<(ta:Int)
    ·have hRe:R=(Dm,0,x,140):=by rw[←HWX.out,if_pos c1];rfl
     have HRE:=Lib.hid hRe;clear hRe;go_wp2_with fail
     try simp only[Exit.noGoto]
     go_ret3
     rw[HRE.out];exact⟨Dm,rfl,HO6.out,hdep,HGR6.out,fun h=>absurd h (by simp)⟩
    ·by_cases c2:(64:Int)<d - ta+gi
     ·have hRe:R=(Dm,0,x,141):=by rw[←HWX.out,if_neg c1,if_pos c2];rfl
      have HRE:=Lib.hid hRe;clear hRe;go_wp2_with fail
      try simp only[Exit.noGoto]
      go_ret3
      rw[HRE.out];exact⟨Dm,rfl,HO6.out,hdep,HGR6.out,fun h=>absurd h (by simp)⟩
     ·by_cases c3:K=7∧d≠1
      ·have hRe:R=(Dm,0,x,143):=by rw[←HWX.out,if_neg c1,if_neg c2,if_pos c3];rfl
       have HRE:=Lib.hid hRe;obtain⟨rfl,hd1⟩:=c3;clear hRe;go_wp2_with fail
       try simp only[Exit.noGoto]
       go_ret3
       rw[HRE.out];exact⟨Dm,rfl,HO6.out,hdep,HGR6.out,fun h=>absurd h (by simp)⟩
      ·obtain⟨nn,hnn⟩:∃nn:Int,nn=d - ta+gi:=⟨_,rfl⟩
       obtain⟨L,hL⟩:∃L,L=nextN code js x:=⟨_,rfl⟩;have hwl:=HWX.out;rw[if_neg c1,if_neg c2,if_neg c3,if_neg (by decide),←hnn,←hL]at hwl;have HN:=Lib.hid (next_any HG6.out hok x hxi.1 hlt);rw[←hL]at HN;have hLt:∀t∈L,t<code.length:=fun t ht=>hok.next_lt hxi.1 (by rw[←hL];exact ht);have hLlen:L.length≤16384:=(by rw[hL];exact next_len hok x);obtain⟨MM,hMM⟩:∃MM,MM=markN nn L Dm (l.erase x):=⟨_,rfl⟩;rw[←hMM]at hwl;have HMM:=Lib.hid hMM;clear hMM;have HWL:=Lib.hid hwl;have HL:=Lib.hid hL;have HNN:=Lib.hid hnn;have hnb:0≤nn∧nn≤64:=by omega
       have hc3:(K≠7∧((K:Int)==7)=false∧¬(K:Int)=7)∨(K=7∧d=1):=by
        by_cases h7:K=7
        ·exact .inr ⟨h7,by omega⟩
        ·exact .inl ⟨h7,by simp;omega,by omega⟩
       clear hwl hL c3;rcases hc3 with⟨hK,hK2,hK3⟩|⟨rfl,rfl⟩
       all_goals
        go_wp2_with fail;refine HN.out.mono ?_;rintro e w7⟨vL,rfl,hoL,hb7⟩;obtain⟨va,vc,rfl,-,-,hvs⟩:=own_sl hoL;have HOL:=Lib.hid hoL;have HB7:=Lib.hid hb7;have HO7:=Lib.hid (own_below HO6.out hb7);have HGR7:=Lib.hid (HGR6.out.trans (below_grownBy hb7 (some g)));have HH7:=Lib.hid (HH6.out.below hb7);have HVS:=Lib.hid hvs;clear hoL hb7 hvs hc3 hc4 hc5;go_wp2_with fail
        go_loopw[12,71] (fun xe xi w8=>∃(k:Nat) (D1:List Int) (l1:List Nat) (v1:Value) (Q:List Nat),xe=.int .i64 0∧xi=.int .i64 k∧k≤L.length∧w8.ownsRow w0.heap.size 3 1 (.slice (some ⟨g,0,none⟩) code.length c) code.length (encZ D1)∧
         HpAt w8 w.heap.size (w.heap.size+1) v1 l1∧w.grownBy w8 (some g)∧IsHeap l1∧Deps D1∧(∀i∈l1,i<code.length∧0≤D1.getD i (-1))∧l1.length+neg D1+1=l.length+neg Dm∧
         Q.Perm l1∧markN nn (L.drop k) D1 Q=MM∧(∀lq,va=some ⟨lq,0,none⟩→0<L.length→lq<w8.heap.size∧v1.ownBlock≠some lq∧∀j,j<(encN .u32 L).length→w8.cell? ⟨lq,j,none⟩=(encN .u32 L)[j]?)) (fun _ xi _=>L.length - (intOf xi).toNat)
        case atStart=>exact⟨0,Dm,popL l,v1,l.erase x,rfl,rfl,Nat.zero_le _,HO7.out,HH7.out,HGR7.out,hph,hdep,fun i hi=>hin i (hpin i hi),by omega,HPERM.out,by rw[List.drop_zero];exact HMM.out.symm,fun lq e hL0=>by
         obtain⟨lq',e',h1,h2⟩:=HVS.out hL0;rw[e]at e';cases e';have h3:=(HOL.out.lt lq (by rw[e];rfl)).1
         exact⟨h1,fun e2=>by have:=HH1.out.o.lt lq e2;have:=HB6.out.size;omega,h2⟩⟩
        case round=>
         obtain⟨k,D1,l1,v1',Q,rfl,rfl,hk,ho8,hh8,hg8,hp8,hd8,hi8,hm8,hq8,hmk,hlc⟩:=hrel;have HO8:=Lib.hid ho8;have HH8:=Lib.hid hh8;have HG8:=Lib.hid hg8;have HLC:=Lib.hid hlc;have HMK:=Lib.hid hmk;by_cases hkl:k<L.length
         ·obtain⟨t,ht⟩:∃t,t=L.getD k 0:=⟨_,rfl⟩
          have htm:t∈L:=by
           have e:L.getD k 0=L[k]:=(by rw[List.getD_eq_getElem?_getD,List.getElem?_eq_getElem hkl];rfl);rw[ht,e];exact List.getElem_mem _
          have htc:=hLt t htm
          have hdr:L.drop k=t::L.drop (k+1):=by
           rw[List.drop_eq_getElem_cons hkl,ht,List.getD_eq_getElem?_getD,List.getElem?_eq_getElem hkl];rfl
          rw[hdr]at hmk;unfold markN at hmk;obtain⟨lq,hva,-⟩:=HVS.out (by omega);subst hva;have hlq:=HLC.out lq rfl (by omega)
          have hct:wr.cell? ⟨lq,k,none⟩=some (.int .u32 t):=by
           rw[hlq.2.2 k (by rw[encN_length];exact hkl),ht];exact encN_at .u32 L k hkl
          have hcy:=own_int ho8 htc;have hfy:=ho8.frozenAt t;obtain⟨y,hy⟩:∃y,y=D1.getD t (-1):=⟨_,rfl⟩;rw[←hy]at hcy hmk;have hyb:=hd8 t;rw[←hy]at hyb;have HY:=Lib.hid hy;have HT:=Lib.hid ht;have hkk:(k:Int)<(L.length:Int):=(by omega);have hk0:(0:Int)≤(k:Int):=(by omega);have htt:(t:Int)<(code.length:Int):=(by omega);have ht0:(0:Int)≤(t:Int):=(by omega);have ht32:(t:Int)≤16384:=(by omega);clear ho8 hh8 hg8 hlc hy ht;by_cases ha1:0≤y∧y≠nn
          ·rw[if_pos ha1]at hmk
           have hRe:R=(Dm,0,x,142):=(by rw[←HWL.out,←hmk]);have HRE:=Lib.hid hRe;have hyn:=ha1.2;rw[HNN.out]at hyn;have hy0:=ha1.1;clear hRe hmk;go_wp2_with fail
           try simp only[Exit.noGoto]
           go_ret3
           rw[HRE.out];exact⟨D1,rfl,HO8.out,hd8,HG8.out,fun h=>absurd h (by simp)⟩
          ·rw[if_neg ha1]at hmk
           by_cases hy0:y<0
           ·rw[if_pos hy0]at hmk
            have HMK2:=Lib.hid hmk;have hyn:¬0≤y:=(by omega);have hlqo:=(HOL.out.lt lq rfl).1;have hpw:=World.block_lt_of_cell? _ _ HH1.out.c;have hw6:=HB6.out.size;have HLQ:=Lib.hid (show w1.heap.size≤lq∧w.heap.size+1<w1.heap.size from⟨by omega,hpw⟩);have hs9:=HO8.out.stored t (.int .i64 nn);rw[encZ_set]at hs9;have hh9:=HH8.out.setOther g t hgl (.int .i64 nn);have hpu:=push_h hh9 t (by omega);have HS9:=Lib.hid hs9;have HH9:=Lib.hid hh9;have HY0:=Lib.hid hy0;rw[HNN.out]at hpu;have HPU:=Lib.hid hpu;clear hmk hs9 hh9 hpu hlqo hpw hw6;go_wp2_with fail;refine HPU.out.mono ?_;rintro e w9⟨⟨u,rfl⟩,v2,h9,t9⟩;rw[←HNN.out]at t9;have H9:=Lib.hid h9;have T9:=Lib.hid t9;clear h9 t9;go_wp2_with fail
            go_roundw
            case rel=>
             have hpl9:=pushL_perm l1 t;have hns:=neg_set (D:=D1) (t:=t) (x:=nn) (by rw[own_ilen HO8.out];exact htc) (by rw[←HY.out];exact HY0.out) hnb.1;refine⟨k+1,D1.set t nn,pushL l1 t,v2,t::Q,rfl,by go_num,by omega,T9.out.own HH9.out HS9.out.1 hgl,H9.out,HpTo.grown (HG8.out.trans HS9.out.2) HH9.out T9.out,pushL_heap hp8 t,hd8.set t (by omega) hnb.2,fun i hi=>?_,?_,(hq8.cons t).trans hpl9.symm,HMK2.out,fun lq' e h0=>?_⟩
             ·rw[getD_setZ]
              rcases List.mem_cons.1 (hpl9.mem_iff.1 hi)with rfl|hi
              ·exact⟨htc,by rw[if_pos ⟨rfl,by rw[own_ilen HO8.out];exact htc⟩];exact hnb.1⟩
              ·refine⟨(hi8 i hi).1,?_⟩
               split
               ·exact hnb.1
               ·exact(hi8 i hi).2
             ·have:=hpl9.length_eq
              rw[List.length_cons]at this;omega
             ·cases e
              have hz:=HLC.out lq rfl h0;have hlz:=HLQ.out;have hsz:=T9.out.size;rw[World.size_setCell]at hsz;refine⟨by omega,fun e2=>?_,fun j hj=>?_⟩
              ·rcases T9.out.fresh lq e2 with h5|h5
               ·exact hz.2.1 h5
               ·rw[World.size_setCell]at h5;omega
              ·rw[T9.out.cell (l:=l1) (B:=w.heap.size) (by rw[World.size_setCell];exact hz.1) (by omega) hz.2.1 j]
               rw[World.cell?_setCell_other _ _ _ _ (by first|(simp;done)|(simp;omega))];exact hz.2.2 j hj
            case measure=>simp[intOf];omega
           ·rw[if_neg hy0]at hmk
            have HMK2:=Lib.hid hmk;have hyn:y=nn:=(by omega);rw[HNN.out]at hyn;have hy1:0≤y:=(by omega);clear hmk;go_wp2_with fail
            go_roundw
            case rel=>exact⟨k+1,D1,l1,v1',Q,rfl,by go_num,by omega,HO8.out,HH8.out,HG8.out,hp8,hd8,hi8,hm8,hq8,HMK2.out,HLC.out⟩
            case measure=>simp[intOf];omega
         ·obtain rfl:k=L.length:=by omega
          clear ho8 hh8 hg8 hlc hmk;go_wp2_with fail
          go_roundw
          case rel=>
           refine⟨f,_,D1,l1,v1',rfl,rfl,HO8.out,HH8.out,HG8.out,hp8,hd8,hi8,by omega,by omega,?_⟩;have h1:=HMK.out;rw[List.drop_of_length_le (Nat.le_refl _)]at h1;have h2:=HWL.out;rw[←h1,HNN.out]at h2;rw[←walkN_perm code js f D1 _ hq8];exact h2
          case measure=>
           rw[musl_at HH8.out HO8.out,musl_at HHP.out HOWN.out];omega
end Go.Proofs.YtdffaepbkecoeaaGreat
namespace Go.Proofs.YtdffaepbkecoeaaGreat
set_option linter.unusedVariables false
def depthsN (code:List (Nat×Nat)) (js:List Nat):List Nat→List Int→List Int→List Int×List Int×Nat×Nat
 | [],D,ms=>(D,ms,0,0)
 | a::qs,D,ms=>
  if(walkN code js (code.length+1) (D.set a 0) [a] 0).2.2.2≠0 then
   ([],[],(walkN code js (code.length+1) (D.set a 0) [a] 0).2.2.1,(walkN code js (code.length+1) (D.set a 0) [a] 0).2.2.2)
  else depthsN code js qs (walkN code js (code.length+1) (D.set a 0) [a] 0).1 (ms++[(walkN code js (code.length+1) (D.set a 0) [a] 0).2.1])
def flowN (code:List (Nat×Nat)) (js:List Nat):List Int×List Int×Nat×Nat:=
 depthsN code js ((psTo code code.length).map (·.1)) (List.replicate code.length (-1)) []
theorem deps_none (n:Nat):Deps (List.replicate n (-1)):=by
 intro t;rw[List.getD_eq_getElem?_getD,List.getElem?_replicate]
 split<;>simp
theorem encZ_none (n:Nat):encZ (List.replicate n (-1))=List.replicate n (.int .i64 (-1)):=by simp[encZ]
theorem FindOk.next_of {code:List (Nat×Nat)} {js:List Nat} (h:FindOk code js []) {i t:Nat} (hi:i<code.length) (ht:t∈nextN code js i):t<code.length∧(ofTo code code.length).getD t 0=(ofTo code code.length).getD i 0:=by
 unfold nextN opAt argAt at ht
 split at ht
 ·rename_i hk
  have:=h.goes i hi (by omega);rw[List.mem_singleton.1 ht];exact this
 ·split at ht
  ·rename_i hk
   have h1:=h.goes i hi (by omega);have h2:=h.target i hi (.inr hk)
   have h3:t=i+1∨t=(code.getD i (0,0)).2:=by
    split at ht
    ·exact .inl (List.mem_singleton.1 ht)
    ·simp only[List.mem_cons,List.not_mem_nil,or_false]at ht
     omega
   rcases h3 with rfl|rfl
   ·exact h1
   ·exact⟨h2.1,h2.2.1⟩
  ·split at ht
   ·rename_i hk
    have h2:=h.target i hi (.inl hk);rw[List.mem_singleton.1 ht];exact⟨h2.1,h2.2.1⟩
   ·split at ht
    ·unfold tgtsAt at ht
     split at ht
     ·rename_i hr
      have e:(ofN (ofTo code code.length) i).toNat=(ofTo code code.length).getD i 0:=by
       unfold ofN at hr⊢
       split
       ·simp
       ·rename_i hq
        rw[if_neg hq]at hr;omega
      rw[e]at ht;have:=h.legal ht;exact⟨this.1,this.2.1⟩
     ·cases ht
    ·cases ht
def behN (code:List (Nat×Nat)) (D:List Int) (i:Nat):Int:=D.getD i (-1) - takesOf (opAt code i)+givesOf (opAt code i)
structure Closed (code:List (Nat×Nat)) (js:List Nat) (D:List Int) (i:Nat) (M:Int):Prop where
 f:depFault (opAt code i) (D.getD i (-1))=0
 nx:∀t∈nextN code js i,D.getD t (-1)=behN code D i
 m1:D.getD i (-1)≤M
 m2:behN code D i≤M
def Ext (D D':List Int):Prop:=D'.length=D.length∧∀x,0≤D.getD x (-1)→D'.getD x (-1)=D.getD x (-1)
theorem Ext.refl (D:List Int):Ext D D:=⟨rfl,fun _ _=>rfl⟩
theorem Ext.trans {D D1 D2:List Int} (h:Ext D D1) (h2:Ext D1 D2):Ext D D2:=
 ⟨h2.1.trans h.1,fun x hx=>(h2.2 x (by rw[h.2 x hx];exact hx)).trans (h.2 x hx)⟩
theorem depFault_zero {o:Nat} {d:Int} (h:depFault o d=0):(takesOf o:Int)≤d∧d - takesOf o+givesOf o≤64∧(kindOf o=7→d=1):=by
 unfold depFault at h
 split at h
 ·cases h
 split at h
 ·cases h
 split at h
 ·cases h
 ·rename_i h1 h2 h3
  exact⟨by omega,by omega,fun e=>by omega⟩
theorem Closed.ext {code:List (Nat×Nat)} {js:List Nat} {D D':List Int} {i:Nat} {M M':Int} (h:Closed code js D i M) (hi:0≤D.getD i (-1)) (he:Ext D D') (hM:M≤M'):Closed code js D' i M':=by
 have e:=he.2 i hi;have hf:=depFault_zero h.f;have eb:behN code D' i=behN code D i:=by unfold behN;rw[e]
 refine⟨by rw[e];exact h.f,fun t ht=>?_,by rw[e];have:=h.m1;omega,by rw[eb];have:=h.m2;omega⟩;rw[eb,←h.nx t ht];refine he.2 t ?_;rw[h.nx t ht];unfold behN;omega
theorem markN_spec {n:Int} (hn:0≤n):∀(ts:List Nat) (D:List Int) (P:List Nat) (D':List Int) (P':List Nat),markN n ts D P=some (D',P')→(∀t∈ts,t<D.length)→
 Ext D D'∧(∀t∈ts,D'.getD t (-1)=n)∧(∀x,D.getD x (-1)<0→0≤D'.getD x (-1)→x∈P'∧x∈ts)∧(∀x∈P,x∈P')∧(∀x∈P',x∈P∨x∈ts)∧P'.length+neg D'=P.length+neg D
 | [],D,P,D',P',h,_=>by
  cases h;exact⟨Ext.refl _,fun t ht=>(by cases ht),fun x h1 h2=>by omega,fun x hx=>hx,fun x hx=>.inl hx,rfl⟩
 | t::ts,D,P,D',P',h,hl=>by
  unfold markN at h;have ht:=hl t (List.mem_cons_self ..)
  split at h
  ·cases h
  rename_i h1
  split at h
  ·rename_i h2
   obtain⟨e1,e2,e3,e4,e5,e6⟩:=markN_spec hn ts (D.set t n) (t::P) D' P' h (fun x hx=>by rw[List.length_set];exact hl x (List.mem_cons_of_mem _ hx));have hsn:(D.set t n).getD t (-1)=n:=by rw[getD_setZ,if_pos ⟨rfl,ht⟩]
   have hse:Ext D (D.set t n):=⟨by simp,fun x hx=>by rw[getD_setZ,if_neg (fun e=>by rw[e.1]at hx;omega)]⟩;have hDt:D'.getD t (-1)=n:=(e1.2 t (by rw[hsn];exact hn)).trans hsn;refine⟨hse.trans e1,fun x hx=>?_,fun x hx1 hx2=>?_,fun x hx=>e4 x (List.mem_cons_of_mem _ hx),fun x hx=>?_,?_⟩
   ·rcases List.mem_cons.1 hx with rfl|hx
    ·exact hDt
    ·exact e2 x hx
   ·by_cases e:x=t
    ·subst e;exact⟨e4 x (List.mem_cons_self ..),List.mem_cons_self ..⟩
    ·have:=e3 x (by rw[getD_setZ,if_neg (fun h=>e h.1)];exact hx1) hx2
     exact⟨this.1,List.mem_cons_of_mem _ this.2⟩
   ·rcases e5 x hx with h5|h5
    ·rcases List.mem_cons.1 h5 with rfl|h5
     ·exact .inr (List.mem_cons_self ..)
     ·exact .inl h5
    ·exact .inr (List.mem_cons_of_mem _ h5)
   ·have:=neg_set ht h2 hn
    rw[e6,List.length_cons];omega
  ·rename_i h2
   obtain⟨e1,e2,e3,e4,e5,e6⟩:=markN_spec hn ts D P D' P' h (fun x hx=>hl x (List.mem_cons_of_mem _ hx));have hDt:D.getD t (-1)=n:=by omega
   refine⟨e1,fun x hx=>?_,fun x hx1 hx2=>?_,e4,fun x hx=>?_,e6⟩
   ·rcases List.mem_cons.1 hx with rfl|hx
    ·rw[e1.2 x (by omega)];exact hDt
    ·exact e2 x hx
   ·have:=e3 x hx1 hx2
    exact⟨this.1,List.mem_cons_of_mem _ this.2⟩
   ·rcases e5 x hx with h5|h5
    ·exact .inl h5
    ·exact .inr (List.mem_cons_of_mem _ h5)
theorem walkN_spec {code:List (Nat×Nat)} {js:List Nat} (Q:Nat→Prop) (hQ:∀i t,i<code.length→Q i→t∈nextN code js i→t<code.length∧Q t) :
 ∀(f:Nat) (D:List Int) (P:List Nat) (m:Int),P.length+neg D<f→D.length=code.length→(∀i∈P,i<code.length∧Q i∧0≤D.getD i (-1))→(walkN code js f D P m).2.2.2=0→
 Ext D (walkN code js f D P m).1∧m≤(walkN code js f D P m).2.1∧
 (∀i,(i∈P∨(D.getD i (-1)<0∧0≤(walkN code js f D P m).1.getD i (-1)))→Q i∧Closed code js (walkN code js f D P m).1 i (walkN code js f D P m).2.1)
 | 0,D,P,m,hf,_,_,_=>by omega
 | f+1,D,P,m,hf,hl,hP,he=>by
  by_cases hp:P=[]
  ·subst hp
   have hw:walkN code js (f+1) D [] m=(D,m,0,0):=by unfold walkN;rw[if_pos rfl]
   rw[hw]
   exact⟨Ext.refl _,Int.le_refl _,fun i hi=>by
    rcases hi with hi|⟨h1,h2⟩
    ·cases hi
    ·simp only at h2;omega⟩
  ·have hmem:=minN_mem hp
   obtain⟨p1,p2,p3⟩:=hP _ hmem
   have hunf:walkN code js (f+1) D P m=if depFault (opAt code (minN P)) (D.getD (minN P) (-1))≠0 then(D,0,minN P,depFault (opAt code (minN P)) (D.getD (minN P) (-1)))else
    match markN (behN code D (minN P)) (nextN code js (minN P)) D (P.erase (minN P))with
    | none=>(D,0,minN P,142)
    | some (D',P')=>walkN code js f D' P' (max (max m (D.getD (minN P) (-1))) (behN code D (minN P))):=by
    rw[walkN,if_neg hp];rfl
   rw[hunf]at he⊢;generalize hx:minN P=x at*;by_cases hfa:depFault (opAt code x) (D.getD x (-1))=0
   ·rw[if_neg (by simpa using hfa)]at he⊢
    obtain⟨f1,f2,f3⟩:=depFault_zero hfa;have hb0:0≤behN code D x:=(by unfold behN;omega);have hnl:∀t∈nextN code js x,t<D.length:=fun t ht=>(by rw[hl];exact(hQ x t p1 p2 ht).1);cases hmk:markN (behN code D x) (nextN code js x) D (P.erase x)with
    | none=>rw[hmk]at he;simp at he
    | some DP=>
     obtain⟨D1,P1⟩:=DP;rw[hmk]at he;simp only at he⊢;obtain⟨e1,e2,e3,e4,e5,e6⟩:=markN_spec hb0 _ _ _ _ _ hmk hnl;have hel:=List.length_erase_of_mem hmem;have hpos:=List.length_pos_of_mem hmem
     have hP1:∀i∈P1,i<code.length∧Q i∧0≤D1.getD i (-1):=fun i hi=>by
      rcases e5 i hi with h5|h5
      ·obtain⟨q1,q2,q3⟩:=hP i (List.mem_of_mem_erase h5)
       exact⟨q1,q2,by rw[e1.2 i q3];exact q3⟩
      ·obtain⟨q1,q2⟩:=hQ x i p1 p2 h5
       exact⟨q1,q2,by rw[e2 i h5];exact hb0⟩
     obtain⟨r1,r2,r3⟩:=walkN_spec Q hQ f D1 P1 (max (max m (D.getD x (-1))) (behN code D x)) (by omega) (e1.1.trans hl) hP1 he;refine⟨e1.trans r1,by omega,fun i hi=>?_⟩;by_cases hix:i=x
     ·subst hix
      refine⟨p2,?_⟩
      have hc:Closed code js D1 i (max (max m (D.getD i (-1))) (behN code D i)):=by
       have ed:=e1.2 i p3;have eb:behN code D1 i=behN code D i:=(by unfold behN;rw[ed]);refine⟨by rw[ed];exact hfa,fun t ht=>by rw[e2 t ht,eb],by rw[ed];omega,by rw[eb];omega⟩
      exact hc.ext (by rw[e1.2 i p3];exact p3) r1 r2
     ·refine r3 i ?_
      rcases hi with hi|⟨h1,h2⟩
      ·exact .inl (e4 i ((List.mem_erase_of_ne hix).2 hi))
      ·by_cases h3:0≤D1.getD i (-1)
       ·exact .inl (e3 i h1 h3).1
       ·exact .inr ⟨by omega,h2⟩
   ·rw[if_pos hfa]at he
    exact absurd he hfa
structure FlowOk (code:List (Nat×Nat)) (js:List Nat) (D ms:List Int):Prop where
 dl:D.length=code.length
 ml:ms.length=(psTo code code.length).length
 beg:∀j,j<ms.length→D.getD ((psTo code code.length).getD j (0,0,0)).1 (-1)=0
 m0:∀j,j<ms.length→0≤ms.getD j 0
 cl:∀i,i<code.length→0≤D.getD i (-1)→Closed code js D i (ms.getD ((ofTo code code.length).getD i 0) 0)
theorem depthsN_spec {code:List (Nat×Nat)} {js:List Nat} (h:FindOk code js []):∀(qs:List Nat) (D ms:List Int),D.length=code.length→
 (∀j,j<qs.length→qs.getD j 0=((psTo code code.length).getD (ms.length+j) (0,0,0)).1)→ms.length+qs.length=(psTo code code.length).length→
 (∀j,j<ms.length→D.getD ((psTo code code.length).getD j (0,0,0)).1 (-1)=0)→(∀j,j<ms.length→0≤ms.getD j 0)→
 (∀i,i<code.length→0≤D.getD i (-1)→(ofTo code code.length).getD i 0<ms.length∧Closed code js D i (ms.getD ((ofTo code code.length).getD i 0) 0))→
 (depthsN code js qs D ms).2.2.2=0→FlowOk code js (depthsN code js qs D ms).1 (depthsN code js qs D ms).2.1
 | [],D,ms,hl,_,hml,hb,hm,hc,_=>⟨hl,(show ms.length=_ from by simpa using hml),hb,hm,fun i hi h0=>(hc i hi h0).2⟩
 | a::qs,D,ms,hl,hq,hml,hb,hm,hc,he=>by
  unfold depthsN at he⊢;have ha:a=((psTo code code.length).getD ms.length (0,0,0)).1:=hq 0 (by simp);rw[List.length_cons]at hml;have hr:ms.length<(psTo code code.length).length:=by omega
  have hbd:=h.tl.bd ms.length hr;have hal:a<code.length:=by rw[ha];omega
  have hoa:(ofTo code code.length).getD a 0=ms.length:=by rw[ha];exact h.tl.mid ms.length hr _ (Nat.le_refl _) hbd.1
  have hDa:D.getD a (-1)<0:=by
   by_cases h1:0≤D.getD a (-1)
   ·have:=(hc a hal h1).1;omega
   ·omega
  split at he
  ·rename_i hw;exact absurd he hw
  rename_i hw;have hw0:(walkN code js (code.length+1) (D.set a 0) [a] 0).2.2.2=0:=by simpa using hw
  rw[if_neg hw];have hsa:(D.set a 0).getD a (-1)=0:=by rw[getD_setZ,if_pos ⟨rfl,by omega⟩]
  have hneg:=neg_set (D:=D) (t:=a) (x:=0) (by omega) hDa (Int.le_refl _);have hnl:=neg_le D
  obtain⟨r1,r2,r3⟩:=walkN_spec (code:=code) (js:=js) (fun i=>(ofTo code code.length).getD i 0=ms.length) (fun i t hi hQ ht=>by
   have:=h.next_of hi ht
   exact⟨this.1,this.2.trans hQ⟩) (code.length+1) (D.set a 0) [a] 0 (by simp;omega) (by rw[List.length_set];exact hl)
   (fun i hi=>by
    rw[List.mem_singleton.1 hi]
    exact⟨hal,hoa,by rw[hsa];exact Int.le_refl _⟩) hw0
  generalize walkN code js (code.length+1) (D.set a 0) [a] 0=R at*;have hse:Ext D (D.set a 0):=⟨by simp,fun x hx=>by rw[getD_setZ,if_neg (fun e=>by rw[e.1]at hx;omega)]⟩;have hE:=hse.trans r1;have hget:∀j,(ms++[R.2.1]).getD j 0=if j<ms.length then ms.getD j 0 else if j=ms.length then R.2.1 else 0:=fun j=>getD_snoc ms R.2.1 0 j;refine depthsN_spec h qs R.1 (ms++[R.2.1]) (hE.1.trans hl) (fun j hj=>?_) (by simp;omega) (fun j hj=>?_) (fun j hj=>?_) (fun i hi h0=>?_) he
  ·have:=hq (j+1) (by simp;omega)
   simp only[List.getD_cons_succ]at this;rw[this];congr 2;simp;omega
  ·simp only[List.length_append,List.length_cons,List.length_nil]at hj
   by_cases e:j=ms.length
   ·subst e;rw[←ha,r1.2 a (by rw[hsa];exact Int.le_refl _),hsa]
   ·have hb1:=hb j (by omega)
    rw[hE.2 _ (by rw[hb1];exact Int.le_refl _),hb1]
  ·simp only[List.length_append,List.length_cons,List.length_nil]at hj
   rw[hget]
   split
   ·exact hm j (by assumption)
   ·rw[if_pos (by omega)];exact r2
  ·by_cases h1:0≤D.getD i (-1)
   ·obtain⟨c1,c2⟩:=hc i hi h1
    refine⟨by rw[List.length_append];omega,?_⟩;rw[hget,if_pos c1];exact c2.ext h1 hE (Int.le_refl _)
   ·have h2:i∈[a]∨((D.set a 0).getD i (-1)<0∧0≤R.1.getD i (-1)):=by
     by_cases e:i=a
     ·subst e;exact .inl (List.mem_singleton.2 rfl)
     ·exact .inr ⟨by rw[getD_setZ,if_neg (fun h=>e h.1)];omega,h0⟩
    obtain⟨q1,q2⟩:=r3 i h2;refine⟨by rw[q1];simp,?_⟩;rw[q1,hget,if_neg (Nat.lt_irrefl _),if_pos rfl];exact q2
theorem flowN_spec {code:List (Nat×Nat)} {js:List Nat} (h:FindOk code js []) (he:(flowN code js).2.2.2=0):FlowOk code js (flowN code js).1 (flowN code js).2.1:=by
 unfold flowN at he⊢;refine depthsN_spec h _ _ [] (by simp) (fun j hj=>?_) (by simp) (fun j hj=>by simp at hj) (fun j hj=>by simp at hj) (fun i hi h0=>?_) he
 ·rw[List.length_map]at hj
  rw[List.getD_eq_getElem?_getD,List.getElem?_map,List.getElem?_eq_getElem hj,List.getD_eq_getElem?_getD,List.length_nil,Nat.zero_add,List.getElem?_eq_getElem hj];rfl
 ·exfalso
  rw[List.getD_eq_getElem?_getD,List.getElem?_replicate,if_pos hi]at h0;simp at h0
theorem ext_getD {l m:List Nat} (hl:l.length=m.length) (h:∀j,j<l.length→l.getD j 0=m.getD j 0):l=m:=by
 refine List.ext_getElem hl fun j h1 h2=>?_;have:=h j h1;rw[List.getD_eq_getElem?_getD,List.getD_eq_getElem?_getD,List.getElem?_eq_getElem h1,List.getElem?_eq_getElem h2]at this;exact this
def sumTo:List Nat→Nat×Nat→Nat×Nat
 | [],s=>s
 | x::l,s=>sumTo l ((s.1+x)%65521,(s.2+(s.1+x)%65521)%65521)
def sumN (l:List Nat):Nat:=(sumTo l (1,0)).2*65536+(sumTo l (1,0)).1
theorem sumTo_snoc (x:Nat):∀(l:List Nat) (s:Nat×Nat),sumTo (l++[x]) s=(((sumTo l s).1+x)%65521,((sumTo l s).2+((sumTo l s).1+x)%65521)%65521)
 | [],s=>rfl
 | y::l,s=>by rw[List.cons_append];exact sumTo_snoc x l _
theorem sumTo_lt:∀(l:List Nat) (s:Nat×Nat),s.1<65521→s.2<65521→(sumTo l s).1<65521∧(sumTo l s).2<65521
 | [],s,h1,h2=>⟨h1,h2⟩
 | x::l,s,h1,h2=>sumTo_lt l _ (Nat.mod_lt _ (by decide)) (Nat.mod_lt _ (by decide))
theorem sumN_lt (l:List Nat):sumN l<4294967296:=by
 have:=sumTo_lt l (1,0) (by decide) (by decide);unfold sumN;omega
structure St where
 life:Nat
 pc:Nat
 sp:Nat
 ops:List Nat
 data:List Nat
 value:Nat
 fault:Nat
structure St.Small (t:St):Prop where
 l:t.life<256
 p:t.pc<4294967296
 s:t.sp<4294967296
 o:∀x∈t.ops,x<4294967296
 d:∀x∈t.data,x<256
 v:t.value<4294967296
 f:t.fault<256
open Go.RowKit
def w32 (x:Int):Nat:=(IntKind.u32.wrap x).toNat
theorem w32_eq (x:Int):IntKind.u32.wrap x=(w32 x:Int):=by unfold w32;rw[IntKind.wrap_u32];omega
theorem w32_lt (x:Int):w32 x<4294967296:=by unfold w32;rw[IntKind.wrap_u32];omega
theorem frombits (n:Nat) (w:World):(callFunc 196 #[.int .u32 n]).run Tryz.prog w=.ok (.value (.float .f32 n)) w:=by
 rw[run_callFunc_extern Tryz.func196 (by kernel_rfl) (by kernel_rfl) (by kernel_rfl) (e:=Extern.MathFloatBits.float32frombits) (by kernel_rfl)];rfl
theorem tobits (n:Nat) (w:World):(callFunc 195 #[.float .f32 n]).run Tryz.prog w=.ok (.value (.int .u32 n)) w:=by
 rw[run_callFunc_extern Tryz.func195 (by kernel_rfl) (by kernel_rfl) (by kernel_rfl) (e:=Extern.MathFloatBits.float32bits) (by kernel_rfl)];rfl
def nanF (x:Nat):Bool:=(FloatKind.f32.format.order x x)!=some .eq
def wordF (x:Nat):Nat:=if nanF x then 2143289344 else x
theorem word_any (x:Nat) (w:World):Calls Tryz.prog 182 #[.float .f32 x] w fun e w'=>e=.returned (.int .u32 (wordF x))∧w'=w:=by
 have hb:=tobits x;cases h:nanF x<;>unfold nanF at h<;>unfold wordF nanF<;>rw[h]
 all_goals
  go_enter Tryz.func182,Tryz.ntmps182;go_wp2;go_ret;exact⟨rfl,rfl⟩
theorem number_any (x:Nat) (w:World):Calls Tryz.prog 183 #[.int .u32 x] w fun e w'=>e=.returned (.float .f32 x)∧w'=w:=by
 have hb:=frombits x;go_enter Tryz.func183,Tryz.ntmps183;go_wp2;go_ret;exact⟨rfl,rfl⟩
theorem wordF_nan (t r:Nat) (h1:t<2) (h2:r<8388607):wordF (t*2147483648+2139095040+1+r)=2143289344:=by
 have hr:Ieee.single.read (t*2147483648+2139095040+1+r)=.nan (t==1) (r+1):=by
  have e1:(t*2147483648+2139095040+1+r) / 2147483648=t:=by omega
  have e2:(t*2147483648+2139095040+1+r)%2147483648=2139095040+1+r:=by omega
  have e3:t%2=t:=by omega
  simp only[Ieee.Format.read,Ieee.Format.signWeight,Ieee.single,Ieee.Format.binade,Ieee.Format.infRung,show(2:Nat) ^ (8+23)=2147483648 from rfl,show(2:Nat) ^ 23=8388608 from rfl,show((2:Nat) ^ 8 - 1)*8388608=2139095040 from rfl,e1,e2,e3];rw[if_neg (by omega),if_neg (by omega),if_neg (by omega),show 2139095040+1+r - 2139095040=r+1 from by omega]
 have:nanF (t*2147483648+2139095040+1+r)=true:=by
  unfold nanF
  show(Ieee.Datum.order (Ieee.single.read _) (Ieee.single.read _)!=_)=true
  rw[hr];rfl
 unfold wordF;rw[this];rfl
theorem nan_arith (op:BinOp) (hop:op=.add∨op=.sub∨op=.mul∨op=.quo) (t:TypeId) (x y:Nat) (h:floatBits op .f32 x y=none) (w:World) :
 ∃b,wordF b=2143289344∧(binOp op t (.float .f32 x) (.float .f32 y)).run Tryz.prog w=.ok (.float .f32 b) w.drew:=by
 refine⟨(Question.nanBits .f32 x y).cut (w.tape w.drawn (.nanBits .f32 x y)),?_,?_⟩
 ·exact wordF_nan (w.tape w.drawn (.nanBits .f32 x y)%2) _ (by omega) (Nat.mod_lt _ (by decide))
 ·have hq:(Question.nanBits .f32 x y).forced=false:=rfl
  unfold floatBits at h;rcases hop with rfl|rfl|rfl|rfl<;>simp only at h<;>simp[binOp,Op.floatArith,h,hq]
def arithF (op:BinOp) (x y:Nat):Nat:=match floatBits op .f32 x y with
 | some r=>wordF r
 | none=>2143289344
theorem arith_run (op:BinOp) (hop:op=.add∨op=.sub∨op=.mul∨op=.quo) (t:TypeId) (x y:Nat) (w:World) :
 ∃b w',wordF b=arithF op x y∧Below w.heap.size w w'∧(binOp op t (.float .f32 x) (.float .f32 y)).run Tryz.prog w=.ok (.float .f32 b) w':=by
 unfold arithF;cases h:floatBits op .f32 x y with
 | some r=>exact⟨r,w,rfl,Below.refl _ _,run_float_arith w op t .f32 x y r h⟩
 | none=>
  obtain⟨b,hb,hr⟩:=nan_arith op hop t x y h w;exact⟨b,w.drew,hb,(Below.refl _ _).drew,hr⟩
theorem sum_any (x y:Nat) (w:World):Calls Tryz.prog 184 #[.int .u32 x,.int .u32 y] w fun e w'=>e=.returned (.int .u32 (arithF .add x y))∧Below w.heap.size w w':=by
 obtain⟨b,w1,hb,hbl,hr⟩:=arith_run .add (by decide) 254 x y w;have Hb:=Lib.hid hb;clear hb;go_enter Tryz.func184,Tryz.ntmps184
 go_wp2_with(first|(go_at_call 183;refine(number_any _ _).mono ?_;rintro e w1⟨rfl,hw1⟩;subst hw1)|(go_at_call 182;refine(word_any _ _).mono ?_;rintro e w1⟨rfl,hw1⟩;subst hw1))
 go_ret;exact⟨by simp[Hb.out],hbl⟩
theorem rest_any (x y:Nat) (w:World):Calls Tryz.prog 185 #[.int .u32 x,.int .u32 y] w fun e w'=>e=.returned (.int .u32 (arithF .sub x y))∧Below w.heap.size w w':=by
 obtain⟨b,w1,hb,hbl,hr⟩:=arith_run .sub (by decide) 254 x y w;have Hb:=Lib.hid hb;clear hb;go_enter Tryz.func185,Tryz.ntmps185
 go_wp2_with(first|(go_at_call 183;refine(number_any _ _).mono ?_;rintro e w1⟨rfl,hw1⟩;subst hw1)|(go_at_call 182;refine(word_any _ _).mono ?_;rintro e w1⟨rfl,hw1⟩;subst hw1))
 go_ret;exact⟨by simp[Hb.out],hbl⟩
theorem product_any (x y:Nat) (w:World):Calls Tryz.prog 186 #[.int .u32 x,.int .u32 y] w fun e w'=>e=.returned (.int .u32 (arithF .mul x y))∧Below w.heap.size w w':=by
 obtain⟨b,w1,hb,hbl,hr⟩:=arith_run .mul (by decide) 254 x y w;have Hb:=Lib.hid hb;clear hb;go_enter Tryz.func186,Tryz.ntmps186
 go_wp2_with(first|(go_at_call 183;refine(number_any _ _).mono ?_;rintro e w1⟨rfl,hw1⟩;subst hw1)|(go_at_call 182;refine(word_any _ _).mono ?_;rintro e w1⟨rfl,hw1⟩;subst hw1))
 go_ret;exact⟨by simp[Hb.out],hbl⟩
theorem ratio_any (x y:Nat) (w:World):Calls Tryz.prog 187 #[.int .u32 x,.int .u32 y] w fun e w'=>e=.returned (.int .u32 (arithF .quo x y))∧Below w.heap.size w w':=by
 obtain⟨b,w1,hb,hbl,hr⟩:=arith_run .quo (by decide) 254 x y w;have Hb:=Lib.hid hb;clear hb;go_enter Tryz.func187,Tryz.ntmps187
 go_wp2_with(first|(go_at_call 183;refine(number_any _ _).mono ?_;rintro e w1⟨rfl,hw1⟩;subst hw1)|(go_at_call 182;refine(word_any _ _).mono ?_;rintro e w1⟨rfl,hw1⟩;subst hw1))
 go_ret;exact⟨by simp[Hb.out],hbl⟩
def standF (x y:Nat):Nat:=
 if FloatKind.f32.format.order x y==some .lt then 2 else if FloatKind.f32.format.order x y==some .gt then 4 else if FloatKind.f32.format.order x y==some .eq then 3 else 1
theorem stand_any (x y:Nat) (w:World):Calls Tryz.prog 160 #[.int .u32 x,.int .u32 y] w fun e w'=>e=.returned (.int .u8 (standF x y))∧w'=w:=by
 unfold standF;cases h1:FloatKind.f32.format.order x y==some .lt<;>cases h2:FloatKind.f32.format.order x y==some .gt<;>cases h3:FloatKind.f32.format.order x y==some .eq
 all_goals
  go_enter Tryz.func160,Tryz.ntmps160
  go_wp2_with(first|(go_at_call 183;refine(number_any _ _).mono ?_;rintro e w1⟨rfl,hw1⟩;subst hw1))
  go_ret;exact⟨by simp,rfl⟩
theorem bits_nat (op:BinOp) (x y:Int):bits op .u32 x y=((bits op .u32 x y).toNat:Int):=by have:=bits_lo_u32 op x y;omega
def turnF (x:Nat):Nat:=(bits .xor .u32 x 2147483648).toNat
theorem turned_any (x:Nat) (w:World):Calls Tryz.prog 156 #[.int .u32 x] w fun e w'=>e=.returned (.int .u32 (turnF x))∧w'=w:=by
 have hx:=Lib.hid (bits_nat .xor x 2147483648);unfold turnF;go_enter Tryz.func156,Tryz.ntmps156;go_wp2;go_ret;exact⟨by rw[←hx.out];rfl,rfl⟩
theorem sof_any (x:Int) (w:World):Calls Tryz.prog 157 #[.int .i32 x] w fun e w'=>e=.returned (.int .u32 (wordF (floatOfInt .f32 x)))∧w'=w:=by
 go_enter Tryz.func157,Tryz.ntmps157
 go_wp2_with(first|(go_at_call 182;refine(word_any _ _).mono ?_;rintro e w1⟨rfl,hw1⟩;subst hw1))
 go_ret;exact⟨by simp,rfl⟩
theorem cut_low (neg:Bool) (n drop:Nat):(Ieee.Toward.zero.cut neg n drop)*2 ^ drop≤n:=by
 simp only[Ieee.Toward.cut,Bool.toNat_false,Nat.add_zero,Nat.one_shiftLeft];by_cases h:drop≤n.log2+2
 ·rw[Nat.min_eq_left h];exact Nat.div_mul_le_self _ _
 ·rw[Nat.min_eq_right (by omega)]
  have:n / 2 ^ (n.log2+2)=0:=Nat.div_eq_of_lt (Nat.lt_of_lt_of_le Nat.lt_log2_self (Nat.pow_le_pow_right (by decide) (by omega)));rw[this];simp
theorem cut_bound (s:Bool) (m:Nat) (i:Int) (c:Nat) (hc:m*2 ^ (i - min i 8).toNat<c+8388608*2 ^ (8 - min i 8).toNat) (hc1:c≤1):Ieee.Toward.zero.cut s (m<<<i.toNat) (-i).toNat<c+2147483648:=by
 have h:=cut_low s (m<<<i.toNat) (-i).toNat;rw[Nat.shiftLeft_eq]at h;by_cases h8:8≤i
 ·rw[show min i 8=8 from by omega]at hc
  rw[show((8:Int) - 8).toNat=0 from rfl]at hc;rw[show(-i).toNat=0 from by omega]at h⊢;have e:i.toNat=(i - 8).toNat+8:=by omega
  rw[e,Nat.pow_add,←Nat.mul_assoc]at h;rw[Nat.shiftLeft_eq,e,Nat.pow_add,←Nat.mul_assoc];generalize m*2 ^ (i - 8).toNat=q at*;omega
 ·rw[show min i 8=i from by omega]at hc
  rw[show(i - i).toNat=0 from by omega]at hc;by_cases h0:0≤i
  ·rw[show(-i).toNat=0 from by omega]at h⊢
   rw[Nat.shiftLeft_eq];have:i=0∨i=1∨i=2∨i=3∨i=4∨i=5∨i=6∨i=7:=by omega
   rcases this with rfl|rfl|rfl|rfl|rfl|rfl|rfl|rfl<;>simp at h hc⊢<;>omega
  ·obtain⟨D,hD⟩:∃D:Nat,i=-(D:Int):=⟨(-i).toNat,by omega⟩
   rw[show(8 - i).toNat=8+D from by omega,Nat.pow_add]at hc;rw[show(-i).toNat=D from by omega,show i.toNat=0 from by omega]at h⊢;rw[Nat.shiftLeft_eq];have hp:=Nat.two_pow_pos D;generalize 2 ^ D=p at*;generalize Ieee.Toward.zero.cut s (m*2 ^ 0) D=v at*
   have h1:v*p<c+2147483648*p:=by
    have:8388608*(2 ^ 8*p)=2147483648*p:=(by omega);omega
   rcases(show c=0∨c=1 by omega)with rfl|rfl
   ·rw[Nat.zero_add]at h1⊢
    exact Nat.lt_of_mul_lt_mul_right h1
   ·have:v≤2147483648:=Nat.le_of_mul_le_mul_right (show v*p≤2147483648*p by omega) hp
    omega
def towardF (x:Nat):Int:=if nanF x then 0 else if(FloatKind.f32.format.order x 1325400064==some .gt||FloatKind.f32.format.order x 1325400064==some .eq)then 2147483647 else if FloatKind.f32.format.order x 3472883712==some .lt then -2147483648 else(floatToIntVal .f32 x .i32).getD 0
theorem read_hi:Ieee.single.read 1325400064=.number false 8388608 8:=by decide+kernel
theorem read_lo:Ieee.single.read 3472883712=.number true 8388608 8:=by decide+kernel
theorem ord_lt (a b:Int) (h:(some (compare a b)==some .gt||some (compare a b)==some .eq)=false):a<b:=by
 rw[←Int.compare_eq_lt];generalize compare a b=o at h;cases o
 ·rfl
 ·simp at h
 ·simp at h
theorem ord_ge (a b:Int) (h:(some (compare a b)==some .lt)=false):¬a<b:=by
 rw[←Int.compare_eq_lt];generalize compare a b=o at h;cases o
 ·simp at h
 ·simp
 ·simp
theorem toward_fits (x:Nat) (h0:nanF x=false) (h1:(FloatKind.f32.format.order x 1325400064==some .gt||FloatKind.f32.format.order x 1325400064==some .eq)=false) (h2:(FloatKind.f32.format.order x 3472883712==some .lt)=false) :
 ∃n,floatToIntVal .f32 x .i32=some n:=by
 unfold nanF at h0;simp only[FloatKind.format,Ieee.Format.order,read_hi,read_lo]at h0 h1 h2;unfold floatToIntVal FloatKind.decode;simp only[FloatKind.format];cases hd:Ieee.single.read x with
 | nan s t=>rw[hd]at h0;simp[Ieee.Datum.order]at h0
 | infinity s=>
  rw[hd]at h1 h2;cases s<;>simp[Ieee.Datum.order]at h1 h2
 | number s m i=>
  rw[hd]at h1 h2;simp only[Ieee.Datum.order,Ieee.signed]at h1 h2;have hc1:=ord_lt _ _ h1;have hc2:=ord_ge _ _ h2;clear h1 h2;simp only[Nat.shiftLeft_eq]at hc1 hc2;simp only[Ieee.Datum.toInt,Ieee.Datum.integral,Ieee.signed,Nat.shiftLeft_zero];have hm:IntKind.i32.min=-2147483648:=rfl;have hM:IntKind.i32.max=2147483647:=rfl;cases s with
  | false=>
   simp only[Bool.false_eq_true,if_false]at hc1 hc2⊢;have:=cut_bound false m i 0 (by omega) (by omega);rw[if_pos (by omega)];exact⟨_,rfl⟩
  | true=>
   simp only[if_true]at hc1 hc2⊢;have:=cut_bound true m i 1 (by omega) (by omega);rw[if_pos (by omega)];exact⟨_,rfl⟩
theorem toward_any (x:Nat) (w:World):Calls Tryz.prog 158 #[.int .u32 x] w fun e w'=>e=.returned (.int .i32 (towardF x))∧w'=w:=by
 unfold towardF;cases h0:nanF x
 ·cases h1:(FloatKind.f32.format.order x 1325400064==some .gt||FloatKind.f32.format.order x 1325400064==some .eq)
  ·cases h2:FloatKind.f32.format.order x 3472883712==some .lt
   ·obtain⟨n,hn⟩:=toward_fits x h0 h1 h2
    have hcv:=fun w=>run_convert_float_int (P:=Tryz.prog) w 254 21 .f32 .i32 x n (by kernel_rfl) Tryz.underlying21 hn;rw[hn];unfold nanF at h0;go_enter Tryz.func158,Tryz.ntmps158
    go_wp2_with(first|(go_at_call 183;refine(number_any _ _).mono ?_;rintro e w1⟨rfl,hw1⟩;subst hw1))
    go_ret;exact⟨by simp,rfl⟩
   ·unfold nanF at h0
    go_enter Tryz.func158,Tryz.ntmps158
    go_wp2_with(first|(go_at_call 183;refine(number_any _ _).mono ?_;rintro e w1⟨rfl,hw1⟩;subst hw1))
    go_ret;exact⟨by simp,rfl⟩
  ·unfold nanF at h0
   go_enter Tryz.func158,Tryz.ntmps158
   go_wp2_with(first|(go_at_call 183;refine(number_any _ _).mono ?_;rintro e w1⟨rfl,hw1⟩;subst hw1))
   go_ret;exact⟨by simp,rfl⟩
 ·unfold nanF at h0
  go_enter Tryz.func158,Tryz.ntmps158
  go_wp2_with(first|(go_at_call 183;refine(number_any _ _).mono ?_;rintro e w1⟨rfl,hw1⟩;subst hw1))
  go_ret;exact⟨by simp,rfl⟩
def isDiv (o:Nat):Bool:=o==42||o==43||o==44||o==45
def isBi (o:Nat):Bool:=o==39||o==40||o==41||o==46||o==47||o==48||o==50||o==52||o==51||o==54||o==55||o==56||o==57
def biW (o a b:Nat):Nat:=
 if o=39 then w32 (a+b)else if o=40 then w32 (a - b)else if o=41 then w32 (a*b)else if o=42 then w32 (wrap32 ((wrap32 a).tdiv (wrap32 b)))else if o=44 then w32 ((wrap32 a).tmod (wrap32 b))else if o=43 then w32 ((a:Int) / b)else if o=45 then a%b else if o=46 then(bits .and .u32 a b).toNat else if o=47 then(bits .or .u32 a b).toNat else if o=48 then(bits .xor .u32 a b).toNat else if o=50 then w32 (a*2 ^ (b%32))else if o=52 then a / 2 ^ (b%32)else if o=51 then w32 (wrap32 a / 2 ^ (b%32))else if o=54 then arithF .add a b else if o=55 then arithF .sub a b else if o=56 then arithF .mul a b else if o=57 then arithF .quo a b else 0
theorem bi39 (a b:Nat) (w:World):Calls Tryz.prog 162 #[.int .u8 39,.int .u32 a,.int .u32 b] w fun e w'=>e=.returned (.tuple #[.int .u32 (biW 39 a b:Nat),.int .i64 0])∧Below w.heap.size w w':=by
 have e1:biW 39 a b=w32 (a+b):=by simp[biW]
 rw[e1];clear e1;have hw:=fun x=>w32_eq x;go_enter Tryz.func162,Tryz.ntmps162;go_wp2;go_ret2;exact⟨rfl,Below.refl _ _⟩
theorem bi40 (a b:Nat) (w:World):Calls Tryz.prog 162 #[.int .u8 40,.int .u32 a,.int .u32 b] w fun e w'=>e=.returned (.tuple #[.int .u32 (biW 40 a b:Nat),.int .i64 0])∧Below w.heap.size w w':=by
 have e1:biW 40 a b=w32 (a - b):=by simp[biW]
 rw[e1];clear e1;have hw:=fun x=>w32_eq x;go_enter Tryz.func162,Tryz.ntmps162;go_wp2;go_ret2;exact⟨rfl,Below.refl _ _⟩
theorem bi41 (a b:Nat) (w:World):Calls Tryz.prog 162 #[.int .u8 41,.int .u32 a,.int .u32 b] w fun e w'=>e=.returned (.tuple #[.int .u32 (biW 41 a b:Nat),.int .i64 0])∧Below w.heap.size w w':=by
 have e1:biW 41 a b=w32 (a*b):=by simp[biW]
 rw[e1];clear e1;have hw:=fun x=>w32_eq x;go_enter Tryz.func162,Tryz.ntmps162;go_wp2;go_ret2;exact⟨rfl,Below.refl _ _⟩
theorem bi42 (a b:Nat) (hb:b<4294967296) (hb0:b≠0) (w:World):Calls Tryz.prog 162 #[.int .u8 42,.int .u32 a,.int .u32 b] w fun e w'=>e=.returned (.tuple #[.int .u32 (biW 42 a b:Nat),.int .i64 0])∧Below w.heap.size w w':=by
 have e1:biW 42 a b=w32 (wrap32 ((wrap32 a).tdiv (wrap32 b))):=by simp[biW]
 rw[e1];clear e1;have hw:=fun x=>w32_eq x;have hz:¬wrap32 (b:Int)=0:=by unfold wrap32;omega
 go_enter Tryz.func162,Tryz.ntmps162;go_wp2;go_ret2;exact⟨rfl,Below.refl _ _⟩
theorem bi44 (a b:Nat) (hb:b<4294967296) (hb0:b≠0) (w:World):Calls Tryz.prog 162 #[.int .u8 44,.int .u32 a,.int .u32 b] w fun e w'=>e=.returned (.tuple #[.int .u32 (biW 44 a b:Nat),.int .i64 0])∧Below w.heap.size w w':=by
 have e1:biW 44 a b=w32 ((wrap32 a).tmod (wrap32 b)):=by simp[biW]
 rw[e1];clear e1;have hw:=fun x=>w32_eq x;have hz:¬wrap32 (b:Int)=0:=by unfold wrap32;omega
 go_enter Tryz.func162,Tryz.ntmps162;go_wp2;go_ret2;exact⟨rfl,Below.refl _ _⟩
theorem bi43 (a b:Nat) (_hb:b<4294967296) (hb0:b≠0) (w:World):Calls Tryz.prog 162 #[.int .u8 43,.int .u32 a,.int .u32 b] w fun e w'=>e=.returned (.tuple #[.int .u32 (biW 43 a b:Nat),.int .i64 0])∧Below w.heap.size w w':=by
 have e1:biW 43 a b=w32 ((a:Int) / b):=by simp[biW]
 rw[e1];clear e1;have hw:=fun x=>w32_eq x;have hz:¬(b:Int)=0:=by omega
 go_enter Tryz.func162,Tryz.ntmps162;go_wp2;go_ret2;exact⟨rfl,Below.refl _ _⟩
theorem bi45 (a b:Nat) (_hb:b<4294967296) (hb0:b≠0) (w:World):Calls Tryz.prog 162 #[.int .u8 45,.int .u32 a,.int .u32 b] w fun e w'=>e=.returned (.tuple #[.int .u32 (biW 45 a b:Nat),.int .i64 0])∧Below w.heap.size w w':=by
 have e1:biW 45 a b=a%b:=by simp[biW]
 rw[e1];clear e1;have hw:=fun x=>w32_eq x;have hz:¬(b:Int)=0:=by omega
 go_enter Tryz.func162,Tryz.ntmps162;go_wp2;go_ret2;exact⟨by simp,Below.refl _ _⟩
theorem bi46 (a b:Nat) (w:World):Calls Tryz.prog 162 #[.int .u8 46,.int .u32 a,.int .u32 b] w fun e w'=>e=.returned (.tuple #[.int .u32 (biW 46 a b:Nat),.int .i64 0])∧Below w.heap.size w w':=by
 have e1:biW 46 a b=(bits .and .u32 a b).toNat:=by simp[biW]
 rw[e1];clear e1;have hx:=bits_nat .and a b;generalize (bits .and .u32 a b).toNat=t at*;go_enter Tryz.func162,Tryz.ntmps162;go_wp2;go_ret2;exact⟨rfl,Below.refl _ _⟩
theorem bi47 (a b:Nat) (w:World):Calls Tryz.prog 162 #[.int .u8 47,.int .u32 a,.int .u32 b] w fun e w'=>e=.returned (.tuple #[.int .u32 (biW 47 a b:Nat),.int .i64 0])∧Below w.heap.size w w':=by
 have e1:biW 47 a b=(bits .or .u32 a b).toNat:=by simp[biW]
 rw[e1];clear e1;have hx:=bits_nat .or a b;generalize (bits .or .u32 a b).toNat=t at*;go_enter Tryz.func162,Tryz.ntmps162;go_wp2;go_ret2;exact⟨rfl,Below.refl _ _⟩
theorem bi48 (a b:Nat) (w:World):Calls Tryz.prog 162 #[.int .u8 48,.int .u32 a,.int .u32 b] w fun e w'=>e=.returned (.tuple #[.int .u32 (biW 48 a b:Nat),.int .i64 0])∧Below w.heap.size w w':=by
 have e1:biW 48 a b=(bits .xor .u32 a b).toNat:=by simp[biW]
 rw[e1];clear e1;have hx:=bits_nat .xor a b;generalize (bits .xor .u32 a b).toNat=t at*;go_enter Tryz.func162,Tryz.ntmps162;go_wp2;go_ret2;exact⟨rfl,Below.refl _ _⟩
theorem bi50 (a b:Nat) (w:World):Calls Tryz.prog 162 #[.int .u8 50,.int .u32 a,.int .u32 b] w fun e w'=>e=.returned (.tuple #[.int .u32 (biW 50 a b:Nat),.int .i64 0])∧Below w.heap.size w w':=by
 have e1:biW 50 a b=w32 (a*2 ^ (b%32)):=by simp[biW]
 rw[e1];clear e1;have hw:=fun x=>w32_eq x;go_enter Tryz.func162,Tryz.ntmps162;go_wp2;go_ret2;exact⟨rfl,Below.refl _ _⟩
theorem bi52 (a b:Nat) (w:World):Calls Tryz.prog 162 #[.int .u8 52,.int .u32 a,.int .u32 b] w fun e w'=>e=.returned (.tuple #[.int .u32 (biW 52 a b:Nat),.int .i64 0])∧Below w.heap.size w w':=by
 have e1:biW 52 a b=a / 2 ^ (b%32):=by simp[biW]
 rw[e1];clear e1;have hw:=fun x=>w32_eq x;go_enter Tryz.func162,Tryz.ntmps162;go_wp2;go_ret2;exact⟨by simp,Below.refl _ _⟩
theorem bi51 (a b:Nat) (w:World):Calls Tryz.prog 162 #[.int .u8 51,.int .u32 a,.int .u32 b] w fun e w'=>e=.returned (.tuple #[.int .u32 (biW 51 a b:Nat),.int .i64 0])∧Below w.heap.size w w':=by
 have e1:biW 51 a b=w32 (wrap32 a / 2 ^ (b%32)):=by simp[biW]
 rw[e1];clear e1;have hw:=fun x=>w32_eq x;go_enter Tryz.func162,Tryz.ntmps162;go_wp2;go_ret2;exact⟨rfl,Below.refl _ _⟩
theorem bi54 (a b:Nat) (w:World):Calls Tryz.prog 162 #[.int .u8 54,.int .u32 a,.int .u32 b] w fun e w'=>e=.returned (.tuple #[.int .u32 (biW 54 a b:Nat),.int .i64 0])∧Below w.heap.size w w':=by
 have e1:biW 54 a b=arithF .add a b:=by simp[biW]
 rw[e1];clear e1;have H:=Lib.hid (fun W=>sum_any a b W);generalize arithF .add a b=t at*;go_enter Tryz.func162,Tryz.ntmps162
 go_wp2_with(go_at_call 184;refine(H.out _).mono ?_;rintro e w1⟨rfl,hb1⟩)
 go_ret2;exact⟨rfl,hb1⟩
theorem bi55 (a b:Nat) (w:World):Calls Tryz.prog 162 #[.int .u8 55,.int .u32 a,.int .u32 b] w fun e w'=>e=.returned (.tuple #[.int .u32 (biW 55 a b:Nat),.int .i64 0])∧Below w.heap.size w w':=by
 have e1:biW 55 a b=arithF .sub a b:=by simp[biW]
 rw[e1];clear e1;have H:=Lib.hid (fun W=>rest_any a b W);generalize arithF .sub a b=t at*;go_enter Tryz.func162,Tryz.ntmps162
 go_wp2_with(go_at_call 185;refine(H.out _).mono ?_;rintro e w1⟨rfl,hb1⟩)
 go_ret2;exact⟨rfl,hb1⟩
theorem bi56 (a b:Nat) (w:World):Calls Tryz.prog 162 #[.int .u8 56,.int .u32 a,.int .u32 b] w fun e w'=>e=.returned (.tuple #[.int .u32 (biW 56 a b:Nat),.int .i64 0])∧Below w.heap.size w w':=by
 have e1:biW 56 a b=arithF .mul a b:=by simp[biW]
 rw[e1];clear e1;have H:=Lib.hid (fun W=>product_any a b W);generalize arithF .mul a b=t at*;go_enter Tryz.func162,Tryz.ntmps162
 go_wp2_with(go_at_call 186;refine(H.out _).mono ?_;rintro e w1⟨rfl,hb1⟩)
 go_ret2;exact⟨rfl,hb1⟩
theorem bi57 (a b:Nat) (w:World):Calls Tryz.prog 162 #[.int .u8 57,.int .u32 a,.int .u32 b] w fun e w'=>e=.returned (.tuple #[.int .u32 (biW 57 a b:Nat),.int .i64 0])∧Below w.heap.size w w':=by
 have e1:biW 57 a b=arithF .quo a b:=by simp[biW]
 rw[e1];clear e1;have H:=Lib.hid (fun W=>ratio_any a b W);generalize arithF .quo a b=t at*;go_enter Tryz.func162,Tryz.ntmps162
 go_wp2_with(go_at_call 187;refine(H.out _).mono ?_;rintro e w1⟨rfl,hb1⟩)
 go_ret2;exact⟨rfl,hb1⟩
theorem bi42_no (a:Nat) (w:World):Calls Tryz.prog 162 #[.int .u8 42,.int .u32 a,.int .u32 (0:Nat)] w fun e w'=>(∃u pv,e=.panicked [{v:=.iface u pv,recovered:=false}])∧Below w.heap.size w w':=by
 have hz:wrap32 ((0:Nat):Int)=0:=by unfold wrap32;decide
 go_enter Tryz.func162,Tryz.ntmps162;go_wp2;exact⟨rfl,⟨_,_,rfl⟩,Below.refl _ _⟩
theorem bi44_no (a:Nat) (w:World):Calls Tryz.prog 162 #[.int .u8 44,.int .u32 a,.int .u32 (0:Nat)] w fun e w'=>(∃u pv,e=.panicked [{v:=.iface u pv,recovered:=false}])∧Below w.heap.size w w':=by
 have hz:wrap32 ((0:Nat):Int)=0:=by unfold wrap32;decide
 go_enter Tryz.func162,Tryz.ntmps162;go_wp2;exact⟨rfl,⟨_,_,rfl⟩,Below.refl _ _⟩
theorem bi43_no (a:Nat) (w:World):Calls Tryz.prog 162 #[.int .u8 43,.int .u32 a,.int .u32 (0:Nat)] w fun e w'=>(∃u pv,e=.panicked [{v:=.iface u pv,recovered:=false}])∧Below w.heap.size w w':=by
 have hz:wrap32 ((0:Nat):Int)=0:=by unfold wrap32;decide
 go_enter Tryz.func162,Tryz.ntmps162;go_wp2;exact⟨rfl,⟨_,_,rfl⟩,Below.refl _ _⟩
theorem bi45_no (a:Nat) (w:World):Calls Tryz.prog 162 #[.int .u8 45,.int .u32 a,.int .u32 (0:Nat)] w fun e w'=>(∃u pv,e=.panicked [{v:=.iface u pv,recovered:=false}])∧Below w.heap.size w w':=by
 have hz:wrap32 ((0:Nat):Int)=0:=by unfold wrap32;decide
 go_enter Tryz.func162,Tryz.ntmps162;go_wp2;exact⟨rfl,⟨_,_,rfl⟩,Below.refl _ _⟩
theorem bi_un (o a b:Nat) (h:isBi o=false) (h2:isDiv o=false) (w:World):Calls Tryz.prog 162 #[.int .u8 o,.int .u32 a,.int .u32 b] w fun e w'=>e=.returned (.tuple #[.int .u32 (0:Nat),.int .i64 61])∧Below w.heap.size w w':=by
 simp only[isBi,isDiv,Bool.or_eq_false_iff,beq_eq_false_iff_ne]at h h2;have k39:((o:Int)==39)=false:=by simp;omega
 have k40:((o:Int)==40)=false:=by simp;omega
 have k41:((o:Int)==41)=false:=by simp;omega
 have k42:((o:Int)==42)=false:=by simp;omega
 have k44:((o:Int)==44)=false:=by simp;omega
 have k43:((o:Int)==43)=false:=by simp;omega
 have k45:((o:Int)==45)=false:=by simp;omega
 have k46:((o:Int)==46)=false:=by simp;omega
 have k47:((o:Int)==47)=false:=by simp;omega
 have k48:((o:Int)==48)=false:=by simp;omega
 have k50:((o:Int)==50)=false:=by simp;omega
 have k52:((o:Int)==52)=false:=by simp;omega
 have k51:((o:Int)==51)=false:=by simp;omega
 have k54:((o:Int)==54)=false:=by simp;omega
 have k55:((o:Int)==55)=false:=by simp;omega
 have k56:((o:Int)==56)=false:=by simp;omega
 have k57:((o:Int)==57)=false:=by simp;omega
 go_enter Tryz.func162,Tryz.ntmps162;go_wp2;go_ret2;exact⟨rfl,Below.refl _ _⟩
def biR (o a b:Nat):Nat×Nat:=if isBi o then(biW o a b,0)else if isDiv o then(if b=0 then(0,60)else(biW o a b,0))else(0,61)
theorem bi_yes (o a b:Nat) (hb:b<4294967296) (h:¬(isDiv o=true∧b=0)) (w:World):Calls Tryz.prog 162 #[.int .u8 o,.int .u32 a,.int .u32 b] w fun e w'=>e=.returned (.tuple #[.int .u32 (biR o a b).1,.int .i64 (biR o a b).2])∧Below w.heap.size w w':=by
 cases h1:isBi o with
 | true=>
  rw[show biR o a b=(biW o a b,0)from by unfold biR;rw[h1];rfl];simp only[isBi,Bool.or_eq_true,beq_iff_eq]at h1;rcases h1 with(((((((((((rfl|rfl)|rfl)|rfl)|rfl)|rfl)|rfl)|rfl)|rfl)|rfl)|rfl)|rfl)|rfl
  ·exact bi39 a b w
  ·exact bi40 a b w
  ·exact bi41 a b w
  ·exact bi46 a b w
  ·exact bi47 a b w
  ·exact bi48 a b w
  ·exact bi50 a b w
  ·exact bi52 a b w
  ·exact bi51 a b w
  ·exact bi54 a b w
  ·exact bi55 a b w
  ·exact bi56 a b w
  ·exact bi57 a b w
 | false=>
  cases h2:isDiv o with
  | true=>
   have hb0:b≠0:=fun e=>h ⟨h2,e⟩;rw[show biR o a b=(biW o a b,0)from by unfold biR;rw[h1,h2];simp[hb0]];simp only[isDiv,Bool.or_eq_true,beq_iff_eq]at h2;rcases h2 with((rfl|rfl)|rfl)|rfl
   ·exact bi42 a b hb hb0 w
   ·exact bi43 a b hb hb0 w
   ·exact bi44 a b hb hb0 w
   ·exact bi45 a b hb hb0 w
  | false=>
   rw[show biR o a b=(0,61)from by unfold biR;rw[h1,h2];rfl];exact bi_un o a b h1 h2 w
theorem bi_no (o a:Nat) (h:isDiv o=true) (w:World):Calls Tryz.prog 162 #[.int .u8 o,.int .u32 a,.int .u32 (0:Nat)] w fun e w'=>(∃u pv,e=.panicked [{v:=.iface u pv,recovered:=false}])∧Below w.heap.size w w':=by
 simp only[isDiv,Bool.or_eq_true,beq_iff_eq]at h;rcases h with((rfl|rfl)|rfl)|rfl
 ·exact bi42_no a w
 ·exact bi43_no a w
 ·exact bi44_no a w
 ·exact bi45_no a w
theorem catch_panicking (b c:Nat) (hpq:b≠c) (u:TypeId) (pv:Value) (older:List PanicEntry) (w:World) (hc:w.cell? ⟨b,0,none⟩=some (.int .u32 0)) (hz:w.frozen? ⟨b,0,none⟩=false) (hc2:w.cell? ⟨c,0,none⟩=some (.int .i64 0)) (hz2:w.frozen? ⟨c,0,none⟩=false) :
 CallsD Tryz.prog 161 #[.pointer (some ⟨b,0,none⟩),.pointer (some ⟨c,0,none⟩)] (.panicking ({v:=.iface u pv,recovered:=false}::older)) w fun e u' w'=>
  e=.returned (.tuple #[])∧u'=.panicking ({v:=.iface u pv,recovered:=true}::older)∧w'=(w.setCell ⟨b,0,none⟩ (.int .u32 0)).setCell ⟨c,0,none⟩ (.int .i64 60):=by
 have hq:(w.setCell ⟨b,0,none⟩ (.int .u32 0)).cell? ⟨c,0,none⟩=some (.int .i64 0):=by
  rw[World.cell?_of_block (Below.heap_setCell _ _ _ _ (Ne.symm hpq))];exact hc2
 have hqz:(w.setCell ⟨b,0,none⟩ (.int .u32 0)).frozen? ⟨c,0,none⟩=false:=by
  simp[go_sem,hz2]
 refine callsD_of_wpS Tryz.func161 rfl fun c₀ cs hu=>?_;apply wpS_seq;apply wpS_region;simp[wpOpsS,go_sem,recoverD,hu,Tryz.ntmps161,Exit.thenS];refine wpS_cond (t:=true) (by simp[Act.eval,Array.replicate]) ?_;simp only[if_true];apply wpS_region;simp[wpOpsS,go_sem,hc,hz,hq,hqz,bodyPostS,results,Tryz.results161]
theorem catch_idle (p q:Addr) (w:World) :
 CallsD Tryz.prog 161 #[.pointer (some p),.pointer (some q)] .returning w fun e u' w'=>e=.returned (.tuple #[])∧u'=.returning∧w'=w:=by
 refine callsD_of_wpS Tryz.func161 rfl fun c₀ cs hu=>?_;apply wpS_seq;apply wpS_region;simp[wpOpsS,go_sem,recoverD,hu,Tryz.ntmps161,Exit.thenS];refine wpS_cond (t:=false) (by simp[Act.eval,Array.replicate]) ?_;simp only[Bool.false_eq_true,if_false];refine wpS_of_wp (wp_skip ?_);cases c₀
 simp_all [bodyPostS,results,Tryz.results161]
theorem isBi_div {o:Nat} (h:isDiv o=true):isBi o=false:=by
 simp only[isDiv,Bool.or_eq_true,beq_iff_eq]at h;rcases h with((rfl|rfl)|rfl)|rfl<;>rfl
theorem set2 {w w1:World} (h:Below w.heap.size w w1) (v u:Value):Below w.heap.size w ((w1.setCell ⟨w.heap.size,0,none⟩ v).setCell ⟨w.heap.size+1,0,none⟩ u):=
 (h.setCell (p:=⟨w.heap.size,0,none⟩) (Nat.le_refl _) v).setCell (p:=⟨w.heap.size+1,0,none⟩) (Nat.le_succ _) u
theorem binary_any (o a b:Nat) (hb:b<4294967296) (w:World):Calls Tryz.prog 131 #[.int .u8 o,.int .u32 a,.int .u32 b] w fun e w'=>e=.returned (.tuple #[.int .u32 (biR o a b).1,.int .i64 (biR o a b).2])∧Below w.heap.size w w':=by
 have hmf:∀(fn:Fn) (first cap:Array Value) (w:World),(Instr.makeFunc fn first cap).run Tryz.prog w=.ok (.func fn first cap) w:=fun _ _ _ _=>rfl;by_cases h:isDiv o=true∧b=0
 ·obtain⟨h1,rfl⟩:=h
  have H:=Lib.hid (fun W=>bi_no o a h1 W)
  go_enter_defers Tryz.func131,Tryz.ntmps131
  go_wp2_with fail;refine(H.out _).mono ?_;rintro e w1⟨⟨u,pv,rfl⟩,hb1⟩;have c6:w1.cell? ⟨w.heap.size,0,none⟩=some (.int .u32 0):=(hb1.cell (p:=⟨w.heap.size,0,none⟩) (by simp;omega)).trans (by simp[go_sem]);have c7:w1.cell? ⟨w.heap.size+1,0,none⟩=some (.int .i64 0):=(hb1.cell (p:=⟨w.heap.size+1,0,none⟩) (by simp)).trans (by simp[go_sem]);have f6:w1.frozen? ⟨w.heap.size,0,none⟩=false:=(hb1.frozen (p:=⟨w.heap.size,0,none⟩) (by simp;omega)).trans (by simp[go_sem]);have f7:w1.frozen? ⟨w.heap.size+1,0,none⟩=false:=(hb1.frozen (p:=⟨w.heap.size+1,0,none⟩) (by simp)).trans (by simp[go_sem]);have HB:=Lib.hid (Bel.of (Bel.of hb1));clear hb1;go_wp2;refine leaves_cons (f:=161) (args:=#[.pointer (some ⟨w.heap.size,0,none⟩),.pointer (some ⟨w.heap.size+1,0,none⟩)]) (by simp) (by simp[go_sem]) ?_;refine(catch_panicking w.heap.size (w.heap.size+1) (by omega) u pv [] w1 c6 f6 c7 f7).mono ?_;rintro e u' w''⟨rfl,rfl,rfl⟩;rw[show biR o a 0=(0,60)from by unfold biR;rw[isBi_div h1,h1];rfl];have hb3:=set2 HB.out (.int .u32 0) (.int .i64 60);simp[Leaves,settle,results,Tryz.results131,go_sem,c6,c7,hb3]
 ·have H:=Lib.hid (fun W=>bi_yes o a b hb h W)
  generalize (biR o a b).1=x at*;generalize (biR o a b).2=y at*
  go_enter_defers Tryz.func131,Tryz.ntmps131
  go_wp2_with fail;refine(H.out _).mono ?_;rintro e w1⟨rfl,hb1⟩;have c6:w1.cell? ⟨w.heap.size,0,none⟩=some (.int .u32 0):=(hb1.cell (p:=⟨w.heap.size,0,none⟩) (by simp;omega)).trans (by simp[go_sem]);have c7:w1.cell? ⟨w.heap.size+1,0,none⟩=some (.int .i64 0):=(hb1.cell (p:=⟨w.heap.size+1,0,none⟩) (by simp)).trans (by simp[go_sem]);have f6:w1.frozen? ⟨w.heap.size,0,none⟩=false:=(hb1.frozen (p:=⟨w.heap.size,0,none⟩) (by simp;omega)).trans (by simp[go_sem]);have f7:w1.frozen? ⟨w.heap.size+1,0,none⟩=false:=(hb1.frozen (p:=⟨w.heap.size+1,0,none⟩) (by simp)).trans (by simp[go_sem]);have HB:=Lib.hid (Bel.of (Bel.of hb1));clear hb1;go_wp2;refine leaves_cons (f:=161) (args:=#[.pointer (some ⟨w.heap.size,0,none⟩),.pointer (some ⟨w.heap.size+1,0,none⟩)]) (by simp) (by simp[go_sem]) ?_;refine(catch_idle _ _ _).mono ?_;rintro e u' w''⟨rfl,rfl,rfl⟩;have hb3:=set2 HB.out (.int .u32 x) (.int .i64 y);simp[Leaves,settle,results,Tryz.results131,go_sem,c6,c7,hb3]
def isUn (o:Nat):Bool:=o==36||o==37||o==38||o==49||o==53||o==58||o==59
def unW (o a:Nat):Nat:=
 if o=36 then w32 (IntKind.i8.wrap a)else if o=37 then w32 (IntKind.i16.wrap a)else if o=38 then w32 (-a)else if o=49 then(bits .xor .u32 IntKind.u32.max a).toNat else if o=53 then turnF a else if o=58 then wordF (floatOfInt .f32 (wrap32 a))else if o=59 then w32 (towardF a)else 0
def unE (o:Nat):Nat:=if isUn o then 0 else 61
theorem un36 (a:Nat) (w:World):Calls Tryz.prog 129 #[.int .u8 36,.int .u32 a] w fun e w'=>e=.returned (.tuple #[.int .u32 (unW 36 a:Nat),.int .i64 (unE 36:Nat)])∧w'=w:=by
 have e1:unW 36 a=w32 (IntKind.i8.wrap a):=by simp[unW]
 have e2:unE 36=0:=by decide
 rw[e1,e2];clear e1 e2;have hw:=fun x=>w32_eq x;go_enter Tryz.func129,Tryz.ntmps129;go_wp2;go_ret2;exact⟨rfl,rfl⟩
theorem un37 (a:Nat) (w:World):Calls Tryz.prog 129 #[.int .u8 37,.int .u32 a] w fun e w'=>e=.returned (.tuple #[.int .u32 (unW 37 a:Nat),.int .i64 (unE 37:Nat)])∧w'=w:=by
 have e1:unW 37 a=w32 (IntKind.i16.wrap a):=by simp[unW]
 have e2:unE 37=0:=by decide
 rw[e1,e2];clear e1 e2;have hw:=fun x=>w32_eq x;go_enter Tryz.func129,Tryz.ntmps129;go_wp2;go_ret2;exact⟨rfl,rfl⟩
theorem un38 (a:Nat) (w:World):Calls Tryz.prog 129 #[.int .u8 38,.int .u32 a] w fun e w'=>e=.returned (.tuple #[.int .u32 (unW 38 a:Nat),.int .i64 (unE 38:Nat)])∧w'=w:=by
 have e1:unW 38 a=w32 (-a):=by simp[unW]
 have e2:unE 38=0:=by decide
 rw[e1,e2];clear e1 e2;have hw:=fun x=>w32_eq x;go_enter Tryz.func129,Tryz.ntmps129;go_wp2;go_ret2;exact⟨rfl,rfl⟩
theorem un49 (a:Nat) (w:World):Calls Tryz.prog 129 #[.int .u8 49,.int .u32 a] w fun e w'=>e=.returned (.tuple #[.int .u32 (unW 49 a:Nat),.int .i64 (unE 49:Nat)])∧w'=w:=by
 have e1:unW 49 a=(bits .xor .u32 IntKind.u32.max a).toNat:=by simp[unW]
 have e2:unE 49=0:=by decide
 rw[e1,e2];clear e1 e2;have hx:=bits_nat .xor IntKind.u32.max a;generalize (bits .xor .u32 IntKind.u32.max a).toNat=t at*;go_enter Tryz.func129,Tryz.ntmps129;go_wp2;go_ret2;exact⟨rfl,rfl⟩
theorem un53 (a:Nat) (w:World):Calls Tryz.prog 129 #[.int .u8 53,.int .u32 a] w fun e w'=>e=.returned (.tuple #[.int .u32 (unW 53 a:Nat),.int .i64 (unE 53:Nat)])∧w'=w:=by
 have e1:unW 53 a=turnF a:=by simp[unW]
 have e2:unE 53=0:=by decide
 rw[e1,e2];clear e1 e2;have hw:=fun x=>w32_eq x;have H:=Lib.hid (fun W=>turned_any a W);generalize turnF a=t at*;go_enter Tryz.func129,Tryz.ntmps129
 go_wp2_with(go_at_call 156;refine(H.out _).mono ?_;rintro e w1⟨rfl,hw1⟩;subst hw1)
 go_ret2;exact⟨rfl,rfl⟩
theorem un58 (a:Nat) (w:World):Calls Tryz.prog 129 #[.int .u8 58,.int .u32 a] w fun e w'=>e=.returned (.tuple #[.int .u32 (unW 58 a:Nat),.int .i64 (unE 58:Nat)])∧w'=w:=by
 have e1:unW 58 a=wordF (floatOfInt .f32 (wrap32 a)):=by simp[unW]
 have e2:unE 58=0:=by decide
 rw[e1,e2];clear e1 e2;have hw:=fun x=>w32_eq x;have H:=Lib.hid (fun W=>sof_any (wrap32 a) W);generalize wordF (floatOfInt .f32 (wrap32 a))=t at*;go_enter Tryz.func129,Tryz.ntmps129
 go_wp2_with(go_at_call 157;refine(H.out _).mono ?_;rintro e w1⟨rfl,hw1⟩;subst hw1)
 go_ret2;exact⟨rfl,rfl⟩
theorem un59 (a:Nat) (w:World):Calls Tryz.prog 129 #[.int .u8 59,.int .u32 a] w fun e w'=>e=.returned (.tuple #[.int .u32 (unW 59 a:Nat),.int .i64 (unE 59:Nat)])∧w'=w:=by
 have e1:unW 59 a=w32 (towardF a):=by simp[unW]
 have e2:unE 59=0:=by decide
 rw[e1,e2];clear e1 e2;have hw:=fun x=>w32_eq x;have H:=Lib.hid (fun W=>toward_any a W);generalize towardF a=t at*;go_enter Tryz.func129,Tryz.ntmps129
 go_wp2_with(go_at_call 158;refine(H.out _).mono ?_;rintro e w1⟨rfl,hw1⟩;subst hw1)
 go_ret2;exact⟨rfl,rfl⟩
theorem un_no (o a:Nat) (h:isUn o=false) (w:World):Calls Tryz.prog 129 #[.int .u8 o,.int .u32 a] w fun e w'=>e=.returned (.tuple #[.int .u32 (0:Nat),.int .i64 (61:Nat)])∧w'=w:=by
 simp only[isUn,Bool.or_eq_false_iff,beq_eq_false_iff_ne]at h;have k36:((o:Int)==36)=false:=by simp;omega
 have k37:((o:Int)==37)=false:=by simp;omega
 have k38:((o:Int)==38)=false:=by simp;omega
 have k49:((o:Int)==49)=false:=by simp;omega
 have k53:((o:Int)==53)=false:=by simp;omega
 have k58:((o:Int)==58)=false:=by simp;omega
 have k59:((o:Int)==59)=false:=by simp;omega
 go_enter Tryz.func129,Tryz.ntmps129;go_wp2;go_ret2;exact⟨rfl,rfl⟩
theorem unary_any (o a:Nat) (w:World):Calls Tryz.prog 129 #[.int .u8 o,.int .u32 a] w fun e w'=>e=.returned (.tuple #[.int .u32 (unW o a:Nat),.int .i64 (unE o:Nat)])∧w'=w:=by
 cases h:isUn o with
 | true=>
  simp only[isUn,Bool.or_eq_true,beq_iff_eq]at h;rcases h with(((((rfl|rfl)|rfl)|rfl)|rfl)|rfl)|rfl
  ·exact un36 a w
  ·exact un37 a w
  ·exact un38 a w
  ·exact un49 a w
  ·exact un53 a w
  ·exact un58 a w
  ·exact un59 a w
 | false=>
  have e1:unW o a=0:=by
   simp only[isUn,Bool.or_eq_false_iff,beq_eq_false_iff_ne]at h;unfold unW;rw[if_neg (by omega),if_neg (by omega),if_neg (by omega),if_neg (by omega),if_neg (by omega),if_neg (by omega),if_neg (by omega)]
  have e2:unE o=61:=by unfold unE;rw[h];rfl
  rw[e1,e2];exact un_no o a h w
theorem beq_int (a b:Nat):((a:Int)==(b:Int))=(a==b):=by
 rw[Bool.eq_iff_iff,beq_iff_eq,beq_iff_eq];omega
theorem bne_int (a b:Nat):((a:Int)!=(b:Int))=(a !=b):=by unfold bne;rw[beq_int]
def floB (o s:Nat):Bool:=
 if o=23 then s==3 else if o=24 then s !=3 else if o=25 then s==2 else if o=26 then s==2||s==3 else if o=27 then s==4 else if o=28 then s==4||s==3 else false
theorem flo23 (s:Nat) (h:s=1∨s=2∨s=3∨s=4) (w:World):Calls Tryz.prog 159 #[.int .u8 23,.int .u8 s] w fun e w'=>e=.returned (.tuple #[.bool (floB 23 s),.int .i64 0])∧w'=w:=by
 rcases h with rfl|rfl|rfl|rfl
 all_goals
  go_enter Tryz.func159,Tryz.ntmps159;go_wp2;go_ret2;exact⟨rfl,rfl⟩
theorem flo24 (s:Nat) (h:s=1∨s=2∨s=3∨s=4) (w:World):Calls Tryz.prog 159 #[.int .u8 24,.int .u8 s] w fun e w'=>e=.returned (.tuple #[.bool (floB 24 s),.int .i64 0])∧w'=w:=by
 rcases h with rfl|rfl|rfl|rfl
 all_goals
  go_enter Tryz.func159,Tryz.ntmps159;go_wp2;go_ret2;exact⟨rfl,rfl⟩
theorem flo25 (s:Nat) (h:s=1∨s=2∨s=3∨s=4) (w:World):Calls Tryz.prog 159 #[.int .u8 25,.int .u8 s] w fun e w'=>e=.returned (.tuple #[.bool (floB 25 s),.int .i64 0])∧w'=w:=by
 rcases h with rfl|rfl|rfl|rfl
 all_goals
  go_enter Tryz.func159,Tryz.ntmps159;go_wp2;go_ret2;exact⟨rfl,rfl⟩
theorem flo26 (s:Nat) (h:s=1∨s=2∨s=3∨s=4) (w:World):Calls Tryz.prog 159 #[.int .u8 26,.int .u8 s] w fun e w'=>e=.returned (.tuple #[.bool (floB 26 s),.int .i64 0])∧w'=w:=by
 rcases h with rfl|rfl|rfl|rfl
 all_goals
  go_enter Tryz.func159,Tryz.ntmps159;go_wp2;go_ret2;exact⟨rfl,rfl⟩
theorem flo27 (s:Nat) (h:s=1∨s=2∨s=3∨s=4) (w:World):Calls Tryz.prog 159 #[.int .u8 27,.int .u8 s] w fun e w'=>e=.returned (.tuple #[.bool (floB 27 s),.int .i64 0])∧w'=w:=by
 rcases h with rfl|rfl|rfl|rfl
 all_goals
  go_enter Tryz.func159,Tryz.ntmps159;go_wp2;go_ret2;exact⟨rfl,rfl⟩
theorem flo28 (s:Nat) (h:s=1∨s=2∨s=3∨s=4) (w:World):Calls Tryz.prog 159 #[.int .u8 28,.int .u8 s] w fun e w'=>e=.returned (.tuple #[.bool (floB 28 s),.int .i64 0])∧w'=w:=by
 rcases h with rfl|rfl|rfl|rfl
 all_goals
  go_enter Tryz.func159,Tryz.ntmps159;go_wp2;go_ret2;exact⟨rfl,rfl⟩
def hoB (o a b:Nat):Bool:=
 if o=13 then a==b else if o=14 then a !=b else if o=15 then decide (wrap32 a<wrap32 b)else if o=16 then decide (wrap32 a≤wrap32 b)else if o=17 then decide (wrap32 b<wrap32 a)else if o=18 then decide (wrap32 b≤wrap32 a)else if o=19 then decide (a<b)else if o=20 then decide (a≤b)else if o=21 then decide (b<a)else if o=22 then decide (b≤a)else floB o (standF a b)
theorem ho13 (a b:Nat) (w:World):Calls Tryz.prog 130 #[.int .u8 13,.int .u32 a,.int .u32 b] w fun e w'=>e=.returned (.tuple #[.bool (hoB 13 a b),.int .i64 0])∧w'=w:=by
 have e1:hoB 13 a b=(a==b):=by simp[hoB]
 rw[e1];clear e1;have hq:=beq_int a b;go_enter Tryz.func130,Tryz.ntmps130;go_wp2;go_ret2;exact⟨rfl,rfl⟩
theorem ho14 (a b:Nat) (w:World):Calls Tryz.prog 130 #[.int .u8 14,.int .u32 a,.int .u32 b] w fun e w'=>e=.returned (.tuple #[.bool (hoB 14 a b),.int .i64 0])∧w'=w:=by
 have e1:hoB 14 a b=(a !=b):=by simp[hoB]
 rw[e1];clear e1;have hq:=bne_int a b;go_enter Tryz.func130,Tryz.ntmps130;go_wp2;go_ret2;exact⟨rfl,rfl⟩
theorem ho15 (a b:Nat) (w:World):Calls Tryz.prog 130 #[.int .u8 15,.int .u32 a,.int .u32 b] w fun e w'=>e=.returned (.tuple #[.bool (hoB 15 a b),.int .i64 0])∧w'=w:=by
 have e1:hoB 15 a b=(decide (wrap32 a<wrap32 b)):=by simp[hoB]
 rw[e1];clear e1;go_enter Tryz.func130,Tryz.ntmps130;go_wp2;go_ret2;exact⟨rfl,rfl⟩
theorem ho16 (a b:Nat) (w:World):Calls Tryz.prog 130 #[.int .u8 16,.int .u32 a,.int .u32 b] w fun e w'=>e=.returned (.tuple #[.bool (hoB 16 a b),.int .i64 0])∧w'=w:=by
 have e1:hoB 16 a b=(decide (wrap32 a≤wrap32 b)):=by simp[hoB]
 rw[e1];clear e1;go_enter Tryz.func130,Tryz.ntmps130;go_wp2;go_ret2;exact⟨rfl,rfl⟩
theorem ho17 (a b:Nat) (w:World):Calls Tryz.prog 130 #[.int .u8 17,.int .u32 a,.int .u32 b] w fun e w'=>e=.returned (.tuple #[.bool (hoB 17 a b),.int .i64 0])∧w'=w:=by
 have e1:hoB 17 a b=(decide (wrap32 b<wrap32 a)):=by simp[hoB]
 rw[e1];clear e1;go_enter Tryz.func130,Tryz.ntmps130;go_wp2;go_ret2;exact⟨rfl,rfl⟩
theorem ho18 (a b:Nat) (w:World):Calls Tryz.prog 130 #[.int .u8 18,.int .u32 a,.int .u32 b] w fun e w'=>e=.returned (.tuple #[.bool (hoB 18 a b),.int .i64 0])∧w'=w:=by
 have e1:hoB 18 a b=(decide (wrap32 b≤wrap32 a)):=by simp[hoB]
 rw[e1];clear e1;go_enter Tryz.func130,Tryz.ntmps130;go_wp2;go_ret2;exact⟨rfl,rfl⟩
theorem ho19 (a b:Nat) (w:World):Calls Tryz.prog 130 #[.int .u8 19,.int .u32 a,.int .u32 b] w fun e w'=>e=.returned (.tuple #[.bool (hoB 19 a b),.int .i64 0])∧w'=w:=by
 have e1:hoB 19 a b=(decide (a<b)):=by simp[hoB]
 rw[e1];clear e1;go_enter Tryz.func130,Tryz.ntmps130;go_wp2;go_ret2;exact⟨by simp,rfl⟩
theorem ho20 (a b:Nat) (w:World):Calls Tryz.prog 130 #[.int .u8 20,.int .u32 a,.int .u32 b] w fun e w'=>e=.returned (.tuple #[.bool (hoB 20 a b),.int .i64 0])∧w'=w:=by
 have e1:hoB 20 a b=(decide (a≤b)):=by simp[hoB]
 rw[e1];clear e1;go_enter Tryz.func130,Tryz.ntmps130;go_wp2;go_ret2;exact⟨by simp,rfl⟩
theorem ho21 (a b:Nat) (w:World):Calls Tryz.prog 130 #[.int .u8 21,.int .u32 a,.int .u32 b] w fun e w'=>e=.returned (.tuple #[.bool (hoB 21 a b),.int .i64 0])∧w'=w:=by
 have e1:hoB 21 a b=(decide (b<a)):=by simp[hoB]
 rw[e1];clear e1;go_enter Tryz.func130,Tryz.ntmps130;go_wp2;go_ret2;exact⟨by simp,rfl⟩
theorem ho22 (a b:Nat) (w:World):Calls Tryz.prog 130 #[.int .u8 22,.int .u32 a,.int .u32 b] w fun e w'=>e=.returned (.tuple #[.bool (hoB 22 a b),.int .i64 0])∧w'=w:=by
 have e1:hoB 22 a b=(decide (b≤a)):=by simp[hoB]
 rw[e1];clear e1;go_enter Tryz.func130,Tryz.ntmps130;go_wp2;go_ret2;exact⟨by simp,rfl⟩
theorem ho23 (a b:Nat) (w:World):Calls Tryz.prog 130 #[.int .u8 23,.int .u32 a,.int .u32 b] w fun e w'=>e=.returned (.tuple #[.bool (hoB 23 a b),.int .i64 0])∧w'=w:=by
 have e1:hoB 23 a b=floB 23 (standF a b):=by simp[hoB]
 have hs:standF a b=1∨standF a b=2∨standF a b=3∨standF a b=4:=by unfold standF;split<;>(try split)<;>(try split)<;>simp
 have H:=Lib.hid (fun W=>stand_any a b W);have H2:=Lib.hid (fun W=>flo23 _ hs W);rw[e1];clear e1 hs;generalize standF a b=s at*;generalize floB 23 s=t at*;go_enter Tryz.func130,Tryz.ntmps130
 go_wp2_with(first|(go_at_call 160;refine(H.out _).mono ?_;rintro e w1⟨rfl,hw1⟩;subst hw1)|(go_at_call 159;refine(H2.out _).mono ?_;rintro e w1⟨rfl,hw1⟩;subst hw1))
 go_ret2;exact⟨rfl,rfl⟩
theorem ho24 (a b:Nat) (w:World):Calls Tryz.prog 130 #[.int .u8 24,.int .u32 a,.int .u32 b] w fun e w'=>e=.returned (.tuple #[.bool (hoB 24 a b),.int .i64 0])∧w'=w:=by
 have e1:hoB 24 a b=floB 24 (standF a b):=by simp[hoB]
 have hs:standF a b=1∨standF a b=2∨standF a b=3∨standF a b=4:=by unfold standF;split<;>(try split)<;>(try split)<;>simp
 have H:=Lib.hid (fun W=>stand_any a b W);have H2:=Lib.hid (fun W=>flo24 _ hs W);rw[e1];clear e1 hs;generalize standF a b=s at*;generalize floB 24 s=t at*;go_enter Tryz.func130,Tryz.ntmps130
 go_wp2_with(first|(go_at_call 160;refine(H.out _).mono ?_;rintro e w1⟨rfl,hw1⟩;subst hw1)|(go_at_call 159;refine(H2.out _).mono ?_;rintro e w1⟨rfl,hw1⟩;subst hw1))
 go_ret2;exact⟨rfl,rfl⟩
theorem ho25 (a b:Nat) (w:World):Calls Tryz.prog 130 #[.int .u8 25,.int .u32 a,.int .u32 b] w fun e w'=>e=.returned (.tuple #[.bool (hoB 25 a b),.int .i64 0])∧w'=w:=by
 have e1:hoB 25 a b=floB 25 (standF a b):=by simp[hoB]
 have hs:standF a b=1∨standF a b=2∨standF a b=3∨standF a b=4:=by unfold standF;split<;>(try split)<;>(try split)<;>simp
 have H:=Lib.hid (fun W=>stand_any a b W);have H2:=Lib.hid (fun W=>flo25 _ hs W);rw[e1];clear e1 hs;generalize standF a b=s at*;generalize floB 25 s=t at*;go_enter Tryz.func130,Tryz.ntmps130
 go_wp2_with(first|(go_at_call 160;refine(H.out _).mono ?_;rintro e w1⟨rfl,hw1⟩;subst hw1)|(go_at_call 159;refine(H2.out _).mono ?_;rintro e w1⟨rfl,hw1⟩;subst hw1))
 go_ret2;exact⟨rfl,rfl⟩
theorem ho26 (a b:Nat) (w:World):Calls Tryz.prog 130 #[.int .u8 26,.int .u32 a,.int .u32 b] w fun e w'=>e=.returned (.tuple #[.bool (hoB 26 a b),.int .i64 0])∧w'=w:=by
 have e1:hoB 26 a b=floB 26 (standF a b):=by simp[hoB]
 have hs:standF a b=1∨standF a b=2∨standF a b=3∨standF a b=4:=by unfold standF;split<;>(try split)<;>(try split)<;>simp
 have H:=Lib.hid (fun W=>stand_any a b W);have H2:=Lib.hid (fun W=>flo26 _ hs W);rw[e1];clear e1 hs;generalize standF a b=s at*;generalize floB 26 s=t at*;go_enter Tryz.func130,Tryz.ntmps130
 go_wp2_with(first|(go_at_call 160;refine(H.out _).mono ?_;rintro e w1⟨rfl,hw1⟩;subst hw1)|(go_at_call 159;refine(H2.out _).mono ?_;rintro e w1⟨rfl,hw1⟩;subst hw1))
 go_ret2;exact⟨rfl,rfl⟩
theorem ho27 (a b:Nat) (w:World):Calls Tryz.prog 130 #[.int .u8 27,.int .u32 a,.int .u32 b] w fun e w'=>e=.returned (.tuple #[.bool (hoB 27 a b),.int .i64 0])∧w'=w:=by
 have e1:hoB 27 a b=floB 27 (standF a b):=by simp[hoB]
 have hs:standF a b=1∨standF a b=2∨standF a b=3∨standF a b=4:=by unfold standF;split<;>(try split)<;>(try split)<;>simp
 have H:=Lib.hid (fun W=>stand_any a b W);have H2:=Lib.hid (fun W=>flo27 _ hs W);rw[e1];clear e1 hs;generalize standF a b=s at*;generalize floB 27 s=t at*;go_enter Tryz.func130,Tryz.ntmps130
 go_wp2_with(first|(go_at_call 160;refine(H.out _).mono ?_;rintro e w1⟨rfl,hw1⟩;subst hw1)|(go_at_call 159;refine(H2.out _).mono ?_;rintro e w1⟨rfl,hw1⟩;subst hw1))
 go_ret2;exact⟨rfl,rfl⟩
theorem ho28 (a b:Nat) (w:World):Calls Tryz.prog 130 #[.int .u8 28,.int .u32 a,.int .u32 b] w fun e w'=>e=.returned (.tuple #[.bool (hoB 28 a b),.int .i64 0])∧w'=w:=by
 have e1:hoB 28 a b=floB 28 (standF a b):=by simp[hoB]
 have hs:standF a b=1∨standF a b=2∨standF a b=3∨standF a b=4:=by unfold standF;split<;>(try split)<;>(try split)<;>simp
 have H:=Lib.hid (fun W=>stand_any a b W);have H2:=Lib.hid (fun W=>flo28 _ hs W);rw[e1];clear e1 hs;generalize standF a b=s at*;generalize floB 28 s=t at*;go_enter Tryz.func130,Tryz.ntmps130
 go_wp2_with(first|(go_at_call 160;refine(H.out _).mono ?_;rintro e w1⟨rfl,hw1⟩;subst hw1)|(go_at_call 159;refine(H2.out _).mono ?_;rintro e w1⟨rfl,hw1⟩;subst hw1))
 go_ret2;exact⟨rfl,rfl⟩
theorem holds_any (o a b:Nat) (h1:13≤o) (h2:o≤28) (w:World):Calls Tryz.prog 130 #[.int .u8 o,.int .u32 a,.int .u32 b] w fun e w'=>e=.returned (.tuple #[.bool (hoB o a b),.int .i64 0])∧w'=w:=by
 have:o=13∨o=14∨o=15∨o=16∨o=17∨o=18∨o=19∨o=20∨o=21∨o=22∨o=23∨o=24∨o=25∨o=26∨o=27∨o=28:=by omega
 rcases this with rfl|rfl|rfl|rfl|rfl|rfl|rfl|rfl|rfl|rfl|rfl|rfl|rfl|rfl|rfl|rfl
 ·exact ho13 a b w
 ·exact ho14 a b w
 ·exact ho15 a b w
 ·exact ho16 a b w
 ·exact ho17 a b w
 ·exact ho18 a b w
 ·exact ho19 a b w
 ·exact ho20 a b w
 ·exact ho21 a b w
 ·exact ho22 a b w
 ·exact ho23 a b w
 ·exact ho24 a b w
 ·exact ho25 a b w
 ·exact ho26 a b w
 ·exact ho27 a b w
 ·exact ho28 a b w
structure Mo where
 im:Img
 D:List Int
 ms:List Int
 k:Nat
def Mo.code (m:Mo):List (Nat×Nat):=m.im.code
def Mo.n (m:Mo):Nat:=m.im.code.length
def Mo.ps (m:Mo):List (Nat×Nat×Nat):=psTo m.im.code m.im.code.length
def Mo.ofs (m:Mo):List Nat:=ofTo m.im.code m.im.code.length
def Mo.size (m:Mo):Nat:=2 ^ m.k
def Mo.depth (m:Mo) (i:Nat):Int:=if i<m.D.length then m.D.getD i (-1)else -1
def Mo.need (m:Mo) (i:Nat):Int:=if i<m.ofs.length then m.ms.getD (m.ofs.getD i 0) 0 else 0
def Mo.begins (m:Mo) (i:Nat):Bool:=beginsN m.ps m.ofs i
def Mo.legal (m:Mo) (x y:Nat):Bool:=decide (y∈nextN m.im.code m.im.js x)
def Mo.back (m:Mo) (i:Nat):Bool:=decide (0<i)&&(decide (0≤m.depth (i - 1))&&decide (opAt m.im.code (i - 1)=5))
structure Mo.Ok (m:Mo):Prop where
 f:FindOk m.im.code m.im.js []
 d:FlowOk m.im.code m.im.js m.D m.ms
 s:stackN m.im.stack=true
 k8:8≤m.k
 k16:m.k≤16
 r:roomN m.im≤2 ^ m.k
def Mo.room (m:Mo) (words at_:Nat):Bool:=decide (0≤m.depth at_)&&(decide (m.depth at_≤words)&&decide ((words:Int) - m.depth at_+m.need at_≤64))
def Mo.top (m:Mo):Nat:=2 ^ m.k - 64
def Mo.fits (m:Mo) (s:St):Bool:=
 decide (s.data.length=2 ^ m.k)&&(decide (s.sp%4=0)&&(decide (2 ^ m.k - m.im.stack≤s.sp)&&(decide (s.sp≤m.top)&&(decide (s.life≠2→s.value=0)&&(decide (s.life≠3→s.fault=0)&&
 (if s.life=0 then decide (s.pc=0)&&(decide (s.sp=m.top)&&decide (s.ops.length=0))
  else if s.life=3 then decide (1≤s.fault)&&(decide (s.fault≤8)&&m.room s.ops.length s.pc)
  else if s.life=1 then m.room s.ops.length s.pc
  else if s.life=2 then decide (0≤m.depth s.pc)&&(decide (opAt m.im.code s.pc=4)&&decide ((s.ops.length:Int)+m.need s.pc≤64))
  else false))))))
def byteAt (d:List Nat) (a:Nat):Nat:=d.getD (a%d.length) 0
def loadN (d:List Nat) (a:Nat):Nat→Nat
 | 0=>0
 | n+1=>loadN d a n+byteAt d (a+n)*256 ^ n
def putN (d:List Nat) (a x:Nat):List Nat:=d.set (a%d.length) x
def storeN (d:List Nat) (a v:Nat):Nat→List Nat
 | 0=>d
 | n+1=>putN (storeN d a v n) (a+n) (v / 256 ^ n%256)
def bytesN (d:List Nat) (a n:Nat):List Nat:=(List.range n).map fun i=>byteAt d (a+i)
def writeTo (d:List Nat) (a:Nat) (b:List Nat):Nat→List Nat
 | 0=>d
 | n+1=>putN (writeTo d a b n) (a+n) (b.getD n 0)
def writeN (d:List Nat) (a:Nat) (b:List Nat):List Nat:=writeTo d a b b.length
def touN (size a n:Nat) (w:Bool):List (Nat×Bool):=(List.range n).map fun i=>((a+i)%size,w)
structure Ev where
 at_:Nat
 num:Nat
 args:List Nat
 val:Nat
structure Rep where
 val:Nat
 ws:List (Nat×List Nat)
def grantedN (gr:List (Nat×Int)) (x:Nat):Option Int:=(gr.find? fun g=>g.1==x).map (·.2)
def wordsM (d:List Nat) (sp n:Nat):List Nat:=(List.range n).map fun i=>loadN d ((sp+4+4*i)%4294967296) 4
def wordsT (size sp n:Nat):List (Nat×Bool):=(List.range n).flatMap fun i=>touN size ((sp+4+4*i)%4294967296) 4 false
def applyN (d:List Nat) (ws:List (Nat×List Nat)):List Nat:=ws.foldl (fun d w=>writeN d w.1 w.2) d
def applyT (size:Nat) (ws:List (Nat×List Nat)):List (Nat×Bool):=ws.flatMap fun w=>touN size w.1 w.2.length true
def topW (s:St) (i:Nat):Nat:=s.ops.getD (s.ops.length - 1 - i) 0
def St.flt (s:St) (f:Nat):St:={s with life:=3,fault:=f}
def St.drops (s:St) (i:Nat):List Nat:=s.ops.take (s.ops.length - i)
def isUnOp (o:Nat):Bool:=o==36||o==37||o==38||o==49||o==53||o==58||o==59
def leaveM (m:Mo) (a:Nat) (s:St):St×List (Nat×Bool):=
 if m.top<(s.sp+a)%4294967296 then(s.flt 6,[])
 else if loadN s.data ((s.sp+a)%4294967296) 4=4294967295 then({s with life:=2,value:=topW s 0,sp:=(s.sp+a)%4294967296,ops:=s.drops 1},touN m.size ((s.sp+a)%4294967296) 4 false)
 else if m.back (loadN s.data ((s.sp+a)%4294967296) 4)=false∨(s.ops.length:Int)<m.depth (loadN s.data ((s.sp+a)%4294967296) 4)then(s.flt 7,touN m.size ((s.sp+a)%4294967296) 4 false)
 else if 64<(s.ops.length:Int) - m.depth (loadN s.data ((s.sp+a)%4294967296) 4)+m.need (loadN s.data ((s.sp+a)%4294967296) 4)then(s.flt 5,touN m.size ((s.sp+a)%4294967296) 4 false)
 else({s with sp:=(s.sp+a)%4294967296,pc:=loadN s.data ((s.sp+a)%4294967296) 4},touN m.size ((s.sp+a)%4294967296) 4 false)
def callM (m:Mo) (s:St):St×List (Nat×Bool):=
 if m.begins (topW s 0)=false then(s.flt 4,[])
 else if 64<(s.ops.length:Int) - 1+m.need (topW s 0)then(s.flt 5,[])
 else({s with ops:=s.drops 1,data:=storeN s.data s.sp (s.pc+1) 4,pc:=topW s 0},touN m.size s.sp 4 true)
def actM (m:Mo) (o a:Nat) (s:St):St×List (Nat×Bool):=
 if o=1 then({s with pc:=s.pc+1},[])
 else if o=2 then(s.flt 1,[])
 else if o=3 then(if s.sp<2 ^ m.k - m.im.stack+a then(s.flt 6,[])else({s with sp:=s.sp - a,pc:=s.pc+1},[]))
 else if o=4 then leaveM m a s
 else if o=5 then callM m s
 else if o=6 then({s with pc:=a},[])
 else if o=7 then(if m.legal s.pc (topW s 0)then({s with pc:=topW s 0,ops:=s.drops 1},[])else(s.flt 3,[]))
 else if o=8 then({s with ops:=s.ops++[a],pc:=s.pc+1},[])
 else if o=9 then({s with ops:=s.ops++[(s.sp+a)%4294967296],pc:=s.pc+1},[])
 else if o=10 then({s with ops:=s.drops 1,pc:=s.pc+1},[])
 else if o=11 then({s with ops:=s.ops++[topW s 0],pc:=s.pc+1},[])
 else if o=12 then({s with ops:=s.drops 1,data:=storeN s.data ((s.sp+4+4*a)%4294967296) (topW s 0) 4,pc:=s.pc+1},touN m.size ((s.sp+4+4*a)%4294967296) 4 true)
 else if o≤28 then({s with ops:=s.drops 2,pc:=if hoB o (topW s 1) (topW s 0)then a else s.pc+1},[])
 else if o≤31 then({s with ops:=s.drops 1++[loadN s.data (topW s 0) (2 ^ (o - 29))],pc:=s.pc+1},touN m.size (topW s 0) (2 ^ (o - 29)) false)
 else if o≤34 then({s with ops:=s.drops 2,data:=storeN s.data (topW s 1) (topW s 0) (2 ^ (o - 32)),pc:=s.pc+1},touN m.size (topW s 1) (2 ^ (o - 32)) true)
 else if o=35 then({s with ops:=s.drops 2,data:=writeN s.data (topW s 1) (bytesN s.data (topW s 0) a),pc:=s.pc+1},touN m.size (topW s 0) a false++touN m.size (topW s 1) a true)
 else if isUnOp o then({s with ops:=s.drops 1++[unW o (topW s 0)],pc:=s.pc+1},[])
 else if(biR o (topW s 1) (topW s 0)).2≠0 then(s.flt 2,[])
 else({s with ops:=s.drops 2++[(biR o (topW s 1) (topW s 0)).1],pc:=s.pc+1},[])
def sysM (m:Mo) (s:St):Option Nat:=if opAt m.im.code s.pc=5∧2147483648≤topW s 0 then some (4294967295 - topW s 0)else none
def waitsM (m:Mo) (gr:List (Nat×Int)) (reps:List Rep) (s:St):Option Ev:=
 match sysM m s,reps with
 | some x,[]=>(grantedN gr x).map fun n=>⟨s.pc,x,wordsM s.data s.sp n.toNat,0⟩
 | _,_=>none
structure Stp where
 st:St
 tou:List (Nat×Bool)
 ev:List Ev
 reps:List Rep
def stepM (m:Mo) (gr:List (Nat×Int)) (reps:List Rep) (s:St):Stp:=
 match sysM m s with
 | none=>⟨(actM m (opAt m.im.code s.pc) (argAt m.im.code s.pc) s).1,(actM m (opAt m.im.code s.pc) (argAt m.im.code s.pc) s).2,[],reps⟩
 | some x=>match grantedN gr x,reps with
  | some n,r::rs=>⟨{s with data:=applyN s.data r.ws,ops:=s.drops 1++[r.val],pc:=s.pc+1},wordsT m.size s.sp n.toNat++applyT m.size r.ws,[⟨s.pc,x,wordsM s.data s.sp n.toNat,r.val⟩],rs⟩
  | _,_=>⟨s.flt 8,[],[],reps⟩
structure GoR where
 st:St
 tou:List (Nat×Bool)
 ev:List Ev
 reps:List Rep
 used:Nat
 ask:Option Ev
def GoR.behind (p:Stp) (r:GoR):GoR:=⟨r.st,p.tou++r.tou,p.ev++r.ev,r.reps,r.used+1,r.ask⟩
def goM (m:Mo) (gr:List (Nat×Int)):Nat→List Rep→St→GoR
 | 0,reps,s=>⟨s,[],[],reps,0,if s.life=1 then waitsM m gr reps s else none⟩
 | f+1,reps,s=>
  if s.life=1∧waitsM m gr reps s=none then GoR.behind (stepM m gr reps s) (goM m gr f (stepM m gr reps s).reps (stepM m gr reps s).st)
  else⟨s,[],[],reps,0,if s.life=1 then waitsM m gr reps s else none⟩
theorem width8_any (w:World):Calls Tryz.prog 173 #[] w fun e w'=>e=.returned (.int .i64 1)∧w=w':=by
 have hx:bits BinOp.xor .u8 IntKind.u8.max 0=255:=by kernel_rfl
 go_enter Tryz.func173,Tryz.ntmps173;go_wp2;refine wp_loop_rounds 2 ?_;rw[rounds_succ];go_wp2;rw[rounds_succ];go_wp2;go_ret;exact⟨rfl,rfl⟩
theorem lay8_any (v:Value) (n:Nat) (xs:List Value) (x:Nat) (hx:x<256) (w:World) (hown:w.ownsRow 0 5 1 v n xs) (hn:n+1≤140737488355328) :
 Calls Tryz.prog 146 #[v,.int .u8 x] w fun e w'=>∃v',e=.returned v'∧w'.ownsRow 0 5 1 v' (n+1) (xs++[.int .u8 x])∧Grew w w' v v':=by
 obtain⟨i0,hi,hz0,hz1,hz2⟩:=info_parts info5;go_enter Tryz.func146,Tryz.ntmps146;go_wp2_with fail;refine(width8_any _).mono ?_;rintro e w1⟨rfl,rfl⟩;go_wp2_with fail
 go_loopw[0,7] (fun u i wr=>∃k:Nat,k≤1∧i=.int .i64 k∧wr.ownsRow 0 5 1 u (n+k) (xs++[Value.int .u8 x].take k)∧Grew w wr v u) (fun _ i _=>1 - (intOf i).toNat)
 case atStart=>exact⟨0,by omega,rfl,by simpa using hown,Grew.refl _ _⟩
 case round=>
  obtain⟨k,hk,rfl,hr,hg⟩:=hrel;by_cases hlt:k<1
  ·obtain rfl:k=0:=by omega
   simp only[Nat.add_zero,List.take_zero,List.append_nil]at hr
   go_wp2_with((with_reducible refine wpList_append1 (o:=⟨some 18,.call {callee:=.builtin .append,args:=#[.tmp 10,.tmp 17],argTypes:=#[24,24]},_,_,_,none⟩) rfl _ _ 24 rfl 5 i0 (.int .u8 0) 1 1 Tryz.underlying24 hi hz0 hz1 hz2 ?_ ?_ _ _ _ hr _ _ ?_ ?_ ?_ ?_ ?_ ?_ ?_);rfl;decide;rfl;rfl;rfl;(simp[Value.oneCell']);(unfold maxLen;omega);omega;intro g c w1 hr1 hg1 hl1)
   go_roundw
   case rel=>exact⟨1,by omega,by go_num,by simpa using hr1,hg.trans hg1⟩
   case measure=>simp[intOf]
  ·have:k=1:=by omega
   subst this;go_wp2;go_ret;exact⟨_,rfl,by simpa using hr,hg⟩
theorem put8_any (a:Option Addr) (cap:Nat) (l:List Nat) (hl:∀i∈l,i<256) (w:World) (hr:Reads w 1 (.slice a l.length cap) l.length (encN .u8 l)) (hn:l.length+4≤140737488355328) :
 Calls Tryz.prog 113 #[.slice a l.length cap] w fun e w'=>∃v',e=.returned v'∧w'.ownsRow 0 5 1 v' l.length (encN .u8 l)∧Grew w w' (.slice none 0 0) v':=by
 obtain⟨a',cap',hv,hlen,hnc,hm,hnil,hp⟩:=hr;simp only[Value.slice.injEq,true_and]at hv;obtain⟨rfl,rfl⟩:=hv
 have hcell:∀k,k<l.length→∃b off,a=some ⟨b,off,none⟩∧b<w.heap.size∧w.cell? ⟨b,off+k,none⟩=some (.int .u8 (l.getD k 0:Nat)):=by
  intro k hk;obtain⟨b,off,e,hlt,hc⟩:=hp (by omega);exact⟨b,off,e,hlt,by rw[hc k (by rw[encN_length];exact hk),encN_at _ l k hk]⟩
 have Hcell:=Lib.hid hcell;clear hp hnil hcell hlen;go_enter Tryz.func113,Tryz.ntmps113;go_wp2_with fail
 go_loopw[3,8] (fun u i wr=>∃k:Nat,k≤l.length∧i=.int .i64 k∧wr.ownsRow 0 5 1 u k (encN .u8 (l.take k))∧Grew w wr (.slice none 0 0) u) (fun _ i _=>l.length - (intOf i).toNat)
 case atStart=>exact⟨0,by omega,rfl,World.ownsRow_nil _ _ _ _,Grew.refl _ _⟩
 case round=>
  obtain⟨k,hk,rfl,hr,hg⟩:=hrel;by_cases hlt:k<l.length
  ·obtain⟨b,off,rfl,hbl,hc⟩:=Hcell.out k hlt
   have hc2:wr.cell? ⟨b,off+k,none⟩=some (.int .u8 (l.getD k 0:Nat)):=((Grew.bel hg).cell (p:=⟨b,off+k,none⟩) hbl).trans hc
   have hx:l.getD k 0<256:=by
    rw[List.getD_eq_getElem?_getD,List.getElem?_eq_getElem hlt];exact hl _ (List.getElem_mem hlt)
   have hs:encN .u8 (l.take (k+1))=encN .u8 (l.take k)++[.int .u8 (l.getD k 0:Nat)]:=by
    rw[List.take_add_one,List.getElem?_eq_getElem hlt,encN_append,List.getD_eq_getElem?_getD,List.getElem?_eq_getElem hlt];rfl
   have Hs:=Lib.hid hs;clear hs hc;generalize l.getD k 0=x at hc2 hx Hs;have h60:=lay8_any u3 k (encN .u8 (l.take k)) x hx wr hr (by omega);go_wp2_with fail;refine h60.mono ?_;rintro e w1⟨v',rfl,hr1,hg1⟩;clear h60;go_wp2
   go_roundw
   case rel=>exact⟨k+1,by omega,by go_num,by rw[Hs.out];exact hr1,hg.trans hg1⟩
   case measure=>simp[intOf];omega
  ·have:k=l.length:=by omega
   subst this;rw[List.take_length]at hr;go_wp2;go_ret;exact⟨_,rfl,hr,hg⟩
theorem sumTo_take {l:List Nat} {k:Nat} (hk:k<l.length):sumTo (l.take (k+1)) (1,0)=(((sumTo (l.take k) (1,0)).1+l.getD k 0)%65521,((sumTo (l.take k) (1,0)).2+((sumTo (l.take k) (1,0)).1+l.getD k 0)%65521)%65521):=by
 rw[List.take_add_one,List.getElem?_eq_getElem hk,List.getD_eq_getElem?_getD,List.getElem?_eq_getElem hk];exact sumTo_snoc _ _ _
theorem sum_bytes (v:Value) (l:List Nat) (w:World) (hv:Bytes w v l) :
 Calls Tryz.prog 62 #[v] w fun e w'=>e=.returned (.int .u32 (sumN l))∧w=w':=by
 obtain⟨a,cap,rfl,hlc,hcm,hnil,hp⟩:=hv.opened;have hm:l.length≤9223372036854775807:=by unfold maxLen at hcm;omega
 have hlt:=hv.lt;have Hp:=Lib.hid hp;have Hl:=Lib.hid hlt;have HS:=Lib.hid (show sumN l=(sumTo l (1,0)).2*65536+(sumTo l (1,0)).1 from rfl);clear hp hv hlt hnil;go_enter Tryz.func62,Tryz.ntmps62;go_wp2_with fail
 go_loop [3,4,9] (fun lo hi i=>∃(k x y:Nat),k≤l.length∧i=.int .i64 k∧lo=.int .u32 x∧hi=.int .u32 y∧x<65521∧y<65521∧sumTo (l.take k) (1,0)=(x,y)) (fun _ _ i=>l.length - (intOf i).toNat)
 case atStart=>exact⟨0,1,0,by omega,rfl,rfl,rfl,by decide,by decide,rfl⟩
 case round=>
  obtain⟨k,x,y,hk,rfl,rfl,rfl,hx,hy,hs⟩:=hrel;have Hs:=Lib.hid hs;clear hs;by_cases hlt:k<l.length
  ·obtain⟨b,off,rfl,hbl,hc⟩:=Hp.out (by omega)
   have hcc:=hc k hlt;have hz:=Hl.out k;have Hn:=Lib.hid (sumTo_take hlt);generalize l.getD k 0=z at*;clear hc;have hki:(k:Int)<(l.length:Int):=by omega
   have hk0:(0:Int)≤(k:Int):=by omega
   go_wp2_with fail
   go_round
   case rel=>exact⟨k+1,(x+z)%65521,(y+(x+z)%65521)%65521,by omega,by go_num,by go_num,by go_num,Nat.mod_lt _ (by decide),Nat.mod_lt _ (by decide),by rw[Hn.out,Hs.out]⟩
   case measure=>simp[intOf];omega
  ·obtain rfl:k=l.length:=by omega
   have hsh:bits BinOp.xor .u32 0 0=0:=by kernel_rfl
   go_wp2;go_ret;refine⟨?_,rfl⟩;rw[HS.out];have h2:=Hs.out;rw[List.take_length]at h2;rw[h2]
   go_num
def byN (s:ByteArray):List Nat:=s.data.toList.map (·.toNat)
def nameB (n:ByteArray×Nat):List Nat:=le4 n.2++([n.1.size%256]++byN n.1)
def namesB (lx:List (ByteArray×Nat)):List Nat:=lx.flatMap nameB
def withN (b:List Nat) (at_ x:Nat):List Nat:=b.take at_++(le4 x++b.drop (at_+4))
theorem withN_length {b:List Nat} {at_ x:Nat} (h:at_+4≤b.length):(withN b at_ x).length=b.length:=by
 simp only[withN,List.length_append,List.length_take,List.length_drop,le4_length];omega
def partsI (m:Img):List (List Nat):=[encode m.code,le4s m.js,m.data,namesB m.lx]
def spansL:Nat→List Nat→List (Nat×Nat)
 | _,[]=>[]
 | a,n::l=>(a,n)::spansL (a+n) l
def headI (m:Img):List Nat:=[80,69,78,33]++le4s [1,0,m.code.length]
def rawI (m:Img):List Nat:=headI m++((spansL 64 ((partsI m).map List.length)).flatMap (fun s=>le4s [s.1,s.2])++(le4s [m.zero,m.stack,0,0]++(partsI m).flatMap id))
def sealedN (b:List Nat):List Nat:=withN (withN b 8 0) 8 (sumN (withN b 8 0))
def imgB (m:Img):List Nat:=sealedN (rawI m)
def digN (m:Img):Nat:=sumN (imgB m)*4294967296+(imgB m).length
theorem cloneC_any (u:Value) (n:Nat) (cs:List Value) (hn:n≤140737488355328) (hone:∀x∈cs,x.oneCell'=true) (w:World) (hu:Reads w 1 u n cs) :
 Calls Tryz.prog 175 #[u] w fun e w'=>∃v,e=.returned v∧w'.ownsRow w.heap.size 5 1 v n cs∧Below w.heap.size w w':=by
 obtain⟨i0,hi,hz0,hz1,hz2⟩:=info_parts info5;have hb:=run_bs24_0';have qn:∀(w:World) (a:Option Addr) (n c n' c':Nat),(binOp .eql 24 (.slice a n c) (.slice none n' c')).run Tryz.prog w=.ok (.bool a.isNone) w:=fun w a n c n' c'=>Lib.run_eql_slice_nil w _ _ a n c n' c' Tryz.underlying24;obtain⟨a,cap,rfl,h1,h2,h3,hnn,hp⟩:=hu;cases a with
 | none=>
  obtain rfl:=hnn rfl;obtain rfl:n=0:=by omega
  obtain rfl:cs=[]:=List.eq_nil_of_length_eq_zero (by omega);clear hp hnn h1;go_enter Tryz.func175,Tryz.ntmps175;go_wp2;exact bodyPost_ret (v:=.slice none 0 0) (by simp[results,Tryz.results175,go_sem]) rfl ⟨_,rfl,World.ownsRow_nil _ _ _ _,Below.refl _ _⟩
 | some ad=>
  have Hu:=Lib.hid (show Reads (w.alloc (.cells #[] 5)) 1 (.slice (some ad) n cap) n cs from Reads.below ⟨some ad,cap,rfl,h1,h2,h3,hnn,hp⟩ (Bel.new _ _));have Hone:=Lib.hid hone;have Hoe:=Lib.hid (own_empty w 5 1);clear hp hnn h1 hone;go_enter Tryz.func175,Tryz.ntmps175
  go_wp2_with((with_reducible refine wpList_append_reads (o:=⟨some 7,.call {callee:=.builtin .append,args:=#[.tmp 5,.tmp 6],argTypes:=#[24,24]},_,_,_,none⟩) rfl _ _ 24 rfl 5 i0 (.int .u8 0) 1 1 Tryz.underlying24 hi hz0 hz1 hz2 ?_ ?_ _ 0 [] ?_ Hoe.out _ n cs ?_ Hu.out Hone.out ?_ ?_ ?_);rfl;decide;rfl;rfl;(unfold maxLen;omega);omega;intro v1 w1 o1 g1)
  have hx:w1.ownsRow w.heap.size 5 1 v1 n cs:=by
   have:=own_from o1 (B:=w.heap.size) (fun g e=>by
    rcases g1.2 g e with h'|h'
    ·cases h';exact Nat.le_refl _
    ·simp at h';omega)
   simpa using this
  have hbw:Below w.heap.size w w1:=(Bel.new w (.cells #[] 5)).grown g1.1 (by simp) (fun g e=>by cases e;exact Nat.le_refl _);exact bodyPost_ret (v:=v1) (by simp[results,Tryz.results175,go_sem]) rfl ⟨_,rfl,hx,hbw⟩
theorem run_append_make (n:Nat) (h0:0<n) (hn:n≤140737488355328) (ty:TypeId) (w:World) :
 (Builtin.append_ #[24,3] ty #[.slice none 0 0,.int .i64 n]).run Tryz.prog w=
  .ok (.slice (some ⟨w.heap.size,0,none⟩) n (grownCap w n 0 5)) (w.drew.alloc (.cells (Builtin.zeroCells #[.int .u8 0] n++Builtin.zeroCells #[.int .u8 0] (grownCap w n 0 5 - n)) 5)):=by
 obtain⟨i0,hi,hz0,hz1,hz2⟩:=info_parts info5;have hw:IntKind.i64.wrap (n:Int)=(n:Int):=IntWalk.i64_in _ (by omega);have hne:n≠0:=by omega
 have h63':¬(9223372036854775807<(n:Int)):=by omega
 have h48':¬(281474976710656<Builtin.nextslicecap n 0):=by rw[nextslicecap_zero h0];omega
 have h48i:¬(281474976710656<(n:Int)):=by omega
 have hneg:¬((n:Int)<0):=by omega
 simp[Builtin.append_,run_underlying Tryz.underlying24,run_underlying Tryz.underlying3,sizeOf,typeInfo,zeroValue,hi,hz0,hz1,hz2,asInt,asIntOf,hw,hne,hneg,h63',h48',h48i,Question.forced,run_firstCells_none,newRow,grownCap,Value.cells]
theorem wpList_append_run {P:Program} {w w':World} {ops:Array Oper} {rest:List Oper} {o:Oper} {a:Act} {Q:Exit→Act→World→Prop} (hgd:o.guard=none) (p q:Operand) (ts:Array TypeId)
 (ho:o.op=.call {callee:=.builtin .append,args:=#[p,q],argTypes:=ts}) (x y v:Value) (hp:a.eval p=x) (hq:a.eval q=y) (hr:(Builtin.append_ ts o.type #[x,y]).run P w=.ok v w')
 (h:wpList P ops Q rest (a.put o.dst v) w'):wpList P ops Q (o::rest) a w:=by
 refine wpList_plain hgd fun K hK=>?_;unfold Oper.wp;simp only[execOp,ho,resolve,invoke,builtin,Sem.run_bind,Sem.run_pure,Result.andThen_ok,List.map_toArray,List.map_cons,List.map_nil,hp,hq,hr];exact hK _ _ h
theorem growB_any (n:Nat) (hn:n≤140737488355328) (w:World) :
 Calls Tryz.prog 144 #[.slice none 0 0,.int .i64 n] w fun e w'=>∃v,e=.returned v∧w'.ownsRow w.heap.size 5 1 v 0 []∧Below w.heap.size w w':=by
 by_cases h0:n=0
 ·subst h0
  go_enter Tryz.func144,Tryz.ntmps144;go_wp2;go_ret;exact⟨_,rfl,World.ownsRow_nil _ _ _ _,Below.refl _ _⟩
 ·have hr:=fun ty=>run_append_make n (by omega) hn ty w
  have hge:=grownCap_ge w n 0 5;have hcm:grownCap w n 0 5≤maxLen:=grownCap_le_maxLen w n 0 5 (by unfold maxLen;omega)
  have hzs:(Builtin.zeroCells #[.int .u8 0] n++Builtin.zeroCells #[.int .u8 0] (grownCap w n 0 5 - n):Array Value).size=grownCap w n 0 5*1:=by
   simp[size_zeroCells];omega
  generalize (Builtin.zeroCells #[.int .u8 0] n++Builtin.zeroCells #[.int .u8 0] (grownCap w n 0 5 - n):Array Value)=cur at*;generalize grownCap w n 0 5=cap at*;have hpos:(0:Int)<(n:Int):=by omega
  have hneg:¬(n:Int)<0:=by omega
  have HO:=Lib.hid (show(w.drew.alloc (.cells cur 5)).ownsRow w.heap.size 5 1 (.slice (some ⟨w.heap.size,0,none⟩) 0 cap) 0 []from
   ⟨rfl,.inr ⟨w.heap.size,cap,cur,rfl,Nat.le_refl _,heap_alloc_new w.drew _,Nat.zero_le _,hcm,hzs,rfl⟩⟩)
  have HB:=Lib.hid (show Below w.heap.size w (w.drew.alloc (.cells cur 5))from((Below.refl _ w).drew).alloc (Nat.le_refl _) _);have hcn:(0:Int)≤(cap:Int):=by omega
  have HR:=Lib.hid hr;clear hzs hr;go_enter Tryz.func144,Tryz.ntmps144
  go_wp2_with((with_reducible refine wpList_append_run (o:=⟨some 22,.call {callee:=.builtin .append,args:=#[.tmp 20,.tmp 21],argTypes:=#[24,3]},_,_,_,none⟩) rfl _ _ #[24,3] rfl _ _ _ ?_ ?_ (HR.out _) ?_);rfl;rfl)
  go_ret;exact⟨_,rfl,HO.out,HB.out⟩
theorem getD_flat (ls:List (List Nat)) (k:Nat) (hk:k<ls.length):(ls.take (k+1)).flatten=(ls.take k).flatten++ls.getD k []:=by
 rw[List.take_add_one,List.getElem?_eq_getElem hk,List.flatten_append,List.getD_eq_getElem?_getD,List.getElem?_eq_getElem hk];simp
structure ListsB (w:World) (q:Nat) (vs:List Value) (ls:List (List Nat)):Prop where
 hl:vs.length=ls.length
 hq:q<w.heap.size
 hc:∀j,j<vs.length→w.cell? ⟨q,j,none⟩=vs[j]?
 hb:∀(j:Nat) (v:Value),vs[j]?=some v→Bytes w v (ls.getD j [])
theorem ListsB.below {w w':World} {q:Nat} {vs:List Value} {ls:List (List Nat)} (h:ListsB w q vs ls) (hb:Below w.heap.size w w'):ListsB w' q vs ls:=
 ⟨h.hl,Nat.lt_of_lt_of_le h.hq hb.size,fun j hj=>(hb.cell (p:=⟨q,j,none⟩) h.hq).trans (h.hc j hj),fun j v hv=>(h.hb j v hv).below hb⟩
theorem flat_le (ls:List (List Nat)) (k:Nat):(ls.take k).flatten.length≤ls.flatten.length:=by
 have:=List.take_append_drop k ls;have h2:=congrArg (fun l=>l.flatten.length) this;simp only[List.flatten_append,List.length_append]at h2;omega
theorem concat_any (q n c:Nat) (vs:List Value) (ls:List (List Nat)) (hn:n=ls.length) (hn2:n≤1000) (ht:ls.flatten.length≤100000000) (w:World) (h:ListsB w q vs ls) :
 Calls Tryz.prog 111 #[.slice (some ⟨q,0,none⟩) n c] w fun e w'=>∃v,e=.returned v∧w'.ownsRow w.heap.size 5 1 v ls.flatten.length (encN .u8 ls.flatten)∧Below w.heap.size w w':=by
 obtain⟨i0,hi,hz0,hz1,hz2⟩:=info_parts info5;have H:=Lib.hid h;have hvl:vs.length=n:=by rw[h.hl,hn]
 clear h;have Hn:=Lib.hid hn;have Hv:=Lib.hid hvl;have Ht:=Lib.hid ht;clear hn hvl ht;go_enter Tryz.func111,Tryz.ntmps111;go_wp2_with fail
 go_loop [3,11] (fun s i=>∃k:Nat,k≤n∧i=.int .i64 k∧s=.int .i64 ((ls.take k).flatten.length:Nat)) (fun _ i=>n - (intOf i).toNat)
 case atStart=>exact⟨0,by omega,rfl,rfl⟩
 case round=>
  obtain⟨k,hk,rfl,rfl⟩:=hrel;by_cases hlt:k<n
  ·obtain⟨v,hv⟩:∃v,vs[k]?=some v:=⟨_,List.getElem?_eq_getElem (by rw[Hv.out];exact hlt)⟩
   have hc:=(H.out.hc k (by rw[Hv.out];exact hlt)).trans hv;obtain⟨a,cp,rfl,-⟩:=(H.out.hb k v hv).1;have Hf:=Lib.hid (getD_flat ls k (by rw[←Hn.out];exact hlt));have hle:=flat_le ls (k+1);have hsum:(ls.take (k+1)).flatten.length=(ls.take k).flatten.length+(ls.getD k []).length:=by rw[Hf.out,List.length_append]
   have htt:=Ht.out;have Hs:=Lib.hid hsum;have hb:(ls.take k).flatten.length+(ls.getD k []).length≤100000000:=by omega
   clear hsum hle htt hv;generalize (ls.take k).flatten.length=t at*;generalize (ls.getD k []).length=m at*;have hki:(k:Int)<(n:Int):=by omega
   have hk0:(0:Int)≤(k:Int):=by omega
   have hneg:¬((t:Int)+(m:Int)<0):=by omega
   go_wp2_with fail
   go_round
   case rel=>exact⟨k+1,by omega,by go_num,by rw[Hs.out];go_num⟩
   case measure=>simp[intOf];omega
  ·obtain rfl:k=n:=by omega
   have hfull:(ls.take k).flatten.length=ls.flatten.length:=by rw[Hn.out,List.take_length]
   rw[hfull];have htt:=Ht.out;have HG:=Lib.hid (growB_any ls.flatten.length (by omega) w);have Htot:=Lib.hid hfull;clear hfull;generalize ls.flatten.length=tot at*;go_wp2_with fail;refine HG.out.mono ?_;rintro e w1⟨v0,rfl,ho0,hb1⟩;have HO0:=Lib.hid ho0;have HB1:=Lib.hid hb1;have H1:=Lib.hid (H.out.below hb1);have hs1:=hb1.size;clear ho0 hb1 HG;go_wp2_with fail
   go_loopw[6,27] (fun u i wr=>∃j:Nat,j≤k∧i=.int .i64 j∧wr.ownsRow w.heap.size 5 1 u (ls.take j).flatten.length (encN .u8 (ls.take j).flatten)∧Below w.heap.size w wr∧ListsB wr q vs ls) (fun _ i _=>k - (intOf i).toNat)
   case atStart=>exact⟨0,by omega,rfl,by simpa[encN]using HO0.out,HB1.out,H1.out⟩
   case round=>
    obtain⟨j,hj,rfl,ho,hb,hL⟩:=hrel;have HO:=Lib.hid ho;have HB:=Lib.hid hb;have HL:=Lib.hid hL;clear ho hb hL;by_cases hlt2:j<k
    ·obtain⟨v,hv⟩:∃v,vs[j]?=some v:=⟨_,List.getElem?_eq_getElem (by rw[Hv.out];exact hlt2)⟩
     have hc:=(HL.out.hc j (by rw[Hv.out];exact hlt2)).trans hv;have Hb:=Lib.hid ((HL.out.hb j v hv).1);obtain⟨a,cp,rfl,-⟩:=(HL.out.hb j v hv).1;have Hf:=Lib.hid (getD_flat ls j (by rw[←Hn.out];exact hlt2));have hle:=flat_le ls (j+1);have hsum:(ls.take (j+1)).flatten.length=(ls.take j).flatten.length+(ls.getD j []).length:=(by rw[Hf.out,List.length_append]);have hbd:(ls.take j).flatten.length+(ls.getD j []).length≤100000000:=(by have:=Htot.out;rw[Hn.out,List.take_length]at this;omega);have HOo:=Lib.hid (own_base HO.out);have Hone:=Lib.hid (encN_one .u8 (ls.getD j []));clear hle hsum hv;have hki:(j:Int)<(k:Int):=(by omega);have hk0:(0:Int)≤(j:Int):=by omega
     go_wp2_with((with_reducible refine wpList_append_reads (o:=⟨some 33,.call {callee:=.builtin .append,args:=#[.tmp 31,.tmp 32],argTypes:=#[24,24]},_,_,_,none⟩) rfl _ _ 24 rfl 5 i0 (.int .u8 0) 1 1 Tryz.underlying24 hi hz0 hz1 hz2 ?_ ?_ _ _ _ ?_ HOo.out _ _ _ ?_ Hb.out Hone.out ?_ ?_ ?_);rfl;decide;rfl;rfl;(unfold maxLen;omega);omega;intro v3 w3 o3 g3)
     go_roundw
     case rel=>exact⟨j+1,by omega,by go_num,by
      rw[Hf.out,encN_append,List.length_append]
      exact own_from o3 (fun g e=>by
       rcases g3.2 g e with h'|h'
       ·exact(HO.out.lt g h').1
       ·have:=HB.out.size;omega),HB.out.grown g3.1 HB.out.size (fun g e=>(HO.out.lt g e).1),by
      have hbw:Below w.heap.size w w3:=HB.out.grown g3.1 HB.out.size (fun g e=>(HO.out.lt g e).1)
      exact H.out.below hbw⟩
     case measure=>simp[intOf];omega
    ·obtain rfl:j=k:=by omega
     have hfull:(ls.take j).flatten=ls.flatten:=(by rw[Hn.out,List.take_length]);have HO2:=Lib.hid (show wr.ownsRow w.heap.size 5 1 u6 ls.flatten.length (encN .u8 ls.flatten)from by rw[←hfull];exact HO.out);clear hfull;go_wp2_with fail;go_ret;exact⟨_,rfl,HO2.out,HB.out⟩
theorem has32_any (a:Option Addr) (n c i:Nat) (hn:n≤9223372036854775807) (w:World) :
 Calls Tryz.prog 174 #[.slice a n c,.int .i64 i] w fun e w'=>e=.returned (.bool (decide (i+4≤n)))∧w=w':=by
 have h0:(0:Int)≤(i:Int):=by omega
 have hd:decide ((0:Int)≤(i:Int))=true:=decide_eq_true h0;go_enter Tryz.func174,Tryz.ntmps174
 go_wp2_with((with_reducible refine(width_any _).mono ?_);rintro e w1⟨rfl,rfl⟩)
 all_goals
  go_ret;exact⟨ret_boolE (by rw[Bool.eq_iff_iff];simp;omega),rfl⟩
theorem own_cur {W:World} {B e g n c:Nat} {xs:List Value} (h:W.ownsRow B e 1 (.slice (some ⟨g,0,none⟩) n c) n xs) :
 ∃cur:List Value,W.heap[g]?=some (.cells cur.toArray e (0,0))∧cur.length=c∧n≤c∧c≤maxLen∧cur.take n=xs∧B≤g:=by
 obtain⟨hl,⟨h,_⟩|⟨g',cap,cur,hv,hb,hg,hn,hm,hcs,ht⟩⟩:=h
 ·cases h
 ·cases hv
  exact⟨cur.toList,by simpa using hg,by simpa using hcs,hn,hm,by simpa using ht,hb⟩
theorem splice_take {cur cs:List Value} {n off:Nat} (h:off+cs.length≤n) (hn:n≤cur.length):(splice cur off cs).take n=splice (cur.take n) off cs:=by
 refine List.ext_getElem? fun j=>?_;unfold splice;rw[List.getElem?_take];have l1:(cur.take off).length=off:=by rw[List.length_take];omega
 have l2:((cur.take n).take off).length=off:=by rw[List.length_take,List.length_take];omega
 by_cases hj:j<n
 ·rw[if_pos hj]
  by_cases c1:j<off
  ·rw[List.getElem?_append_left (by omega),List.getElem?_append_left (by omega),List.getElem?_take,List.getElem?_take,List.getElem?_take,if_pos c1,if_pos c1,if_pos hj]
  ·rw[List.getElem?_append_right (l₁:=cur.take off) (by omega),List.getElem?_append_right (l₁:=(cur.take n).take off) (by omega),l1,l2]
   by_cases c2:j - off<cs.length
   ·rw[List.getElem?_append_left c2,List.getElem?_append_left c2]
   ·rw[List.getElem?_append_right (l₂:=cur.drop (off+cs.length)) (by omega),List.getElem?_append_right (l₂:=(cur.take n).drop (off+cs.length)) (by omega),List.getElem?_drop,List.getElem?_drop,List.getElem?_take,if_pos (by omega)]
 ·rw[if_neg hj,List.getElem?_eq_none]
  simp only[List.length_append,List.length_drop,List.length_take];omega
theorem own_splice {W':World} {B e g n c:Nat} {xs cs cur:List Value} {off:Nat} (hl:xs.length=n) (hc:cur.length=c) (hnc:n≤c) (hcm:c≤maxLen) (ht:cur.take n=xs) (hB:B≤g)
 (hg:W'.heap[g]?=some (.cells (splice cur off cs).toArray e (0,0))) (h:off+cs.length≤n):W'.ownsRow B e 1 (.slice (some ⟨g,0,none⟩) n c) n (splice xs off cs):=by
 have h1:=splice_take h (by omega:n≤cur.length);rw[ht]at h1;refine⟨?_,.inr ⟨g,c,_,rfl,hB,hg,hnc,hcm,?_,?_⟩⟩
 ·unfold splice;simp only[List.length_append,List.length_take,List.length_drop];omega
 ·unfold splice;simp only[List.size_toArray,List.length_append,List.length_take,List.length_drop];omega
 ·rw[Nat.mul_one];simpa using h1
theorem with_splice (b:List Nat) (at_ x:Nat):splice (encN .u8 b) at_ (encN .u8 (le4 x))=encN .u8 (withN b at_ x):=by
 unfold splice withN;rw[encN_append,encN_append,encN_length,le4_length];simp[encN,List.map_take,List.map_drop]
theorem with_any (v:Value) (b:List Nat) (i x:Nat) (hx:x<4294967296) (hi:i+4≤b.length) (hn:b.length≤140737488355328) (w:World) (hv:Bytes w v b) :
 Calls Tryz.prog 147 #[v,.int .i64 i,.int .u32 x] w fun e w'=>∃u,e=.returned (.tuple #[u,.int .i64 0])∧w'.ownsRow w.heap.size 5 1 u (withN b i x).length (encN .u8 (withN b i x))∧Below w.heap.size w w':=by
 have hsz5:(Tryz.prog.info? 5).map (·.size)=some 1:=by kernel_rfl
 have HC:=Lib.hid (fun W hW=>cloneC_any v b.length (encN .u8 b) (by omega) (encN_one .u8 b) W hW);have HV:=Lib.hid hv;obtain⟨a,c,rfl,-,hnc,hcm,-,-⟩:=hv.1;have hn9:b.length≤9223372036854775807:=by omega
 have Hh:=Lib.hid (fun W=>has32_any a b.length c i hn9 W);clear hn9;have hd:decide (i+4≤b.length)=true:=decide_eq_true hi;rw[hd]at Hh;have Hone:=Lib.hid (encN_one .u8 (le4 x));clear hd hv;go_enter Tryz.func147,Tryz.ntmps147;go_wp2_with fail;refine(Hh.out _).mono ?_;rintro e w1⟨rfl,rfl⟩;go_wp2_with fail;refine(HC.out _ HV.out.1).mono ?_;rintro e w1⟨u,rfl,ho,hb⟩;obtain⟨a2,c2,rfl,-,-,hp⟩:=own_sl ho;obtain⟨g,rfl,hg,-⟩:=hp (by omega);have HO:=Lib.hid ho;have HB:=Lib.hid hb;have hi0:(0:Int)≤(i:Int):=by omega
 have hi1:(i:Int)≤(b.length:Int):=by omega
 clear ho hb hp HC Hh;go_wp2_with fail;have HL:=Lib.hid (fun W=>lay_any (.slice none 0 0) 0 [] x hx W (World.ownsRow_nil _ _ _ _) (by omega));have HR:=Lib.hid (Below.refl w1.heap.size w1);obtain⟨cur,q1,q2,q3,q4,q5,q6⟩:=own_cur HO.out;have HQ:=Lib.hid q1;have HQ5:=Lib.hid q5;have hcl:i+(encN .u8 (le4 x)).length≤cur.length:=by rw[encN_length,le4_length];omega
 have HCL:=Lib.hid hcl;have HMin:=Lib.hid (show(encN .u8 (le4 x)).length=Nat.min 4 (b.length - i)from by rw[encN_length,le4_length];exact(Nat.min_eq_left (by omega)).symm);clear q1 q5 hcl
 go_region_held3(fun w'=>Below w.heap.size w w')
  (first|exact HB.out.drew|exact HB.out|assumption)
  (first
   | (go_at_call 145;refine(HL.out _).mono ?_;rintro e w'⟨v4,rfl,o4,g4⟩;have hS4:=Bel.tr HR.out.drew g4.bel;have hS5:=Bel.tr HB.out hS4;obtain⟨g4',c4,rfl,hc4a,hc4b,hg4,hx4⟩:=own_form o4 (by decide);have HX4:=Lib.hid hx4;have HG4:=Lib.hid ((hS4.block g hg).trans HQ.out);clear hx4)
   | (refine step_copy_splice rfl (.tmp 17) (.tmp 19) 24 24 rfl 5 Tryz.underlying24 hsz5 (some ⟨g,i,none⟩) (some ⟨g4',0,none⟩) (b.length - i) (c2 - i) (0+4) c4 (by simp[Act.eval]) (by simp[Act.eval]) g i cur 5 HG4.out (encN .u8 (le4 x)) HMin.out (fun _=>⟨rfl,_,rfl,fun j v hj=>by rw[Addr.add_mid,Nat.zero_add,HX4.out j (by simpa using(List.getElem?_eq_some_iff.1 hj).1)];simpa using hj⟩) HCL.out Hone.out w.heap.size w (Bel.tr HB.out hS4) q6 ?_;intro w5 hg5 hb5))
 have HF:=Lib.hid (show w5.ownsRow w.heap.size 5 1 (.slice (some ⟨g,0,none⟩) b.length c2) (withN b i x).length (encN .u8 (withN b i x))from by
  rw[←with_splice,withN_length hi]
  exact own_splice (by rw[encN_length]) q2 q3 q4 HQ5.out q6 hg5.out (by rw[encN_length,le4_length];exact hi))
 have HB5:=Lib.hid (show Below w.heap.size w w5 from hb5);go_wp2;go_ret2;exact⟨_,rfl,HF.out,HB5.out⟩
theorem own_bytes {w:World} {B n:Nat} {v:Value} {b:List Nat} (h:w.ownsRow B 5 1 v n (encN .u8 b)) (hb:∀x∈b,x<256):Bytes w v b:=by
 have hl:n=b.length:=by have:=h.1;rw[encN_length]at this;omega
 subst hl;exact⟨Reads.own (own_base h) (by decide),hb⟩
theorem le4_lt (x:Nat):∀y∈le4 x,y<256:=by
 intro y hy;simp only[le4,List.mem_cons,List.not_mem_nil,or_false]at hy;rcases hy with rfl|rfl|rfl|rfl<;>exact Nat.mod_lt _ (by decide)
theorem withN_lt {b:List Nat} (h:∀y∈b,y<256) (i x:Nat):∀y∈withN b i x,y<256:=by
 intro y hy;unfold withN at hy;rcases List.mem_append.1 hy with hy|hy
 ·exact h y (List.mem_of_mem_take hy)
 ·rcases List.mem_append.1 hy with hy|hy
  ·exact le4_lt x y hy
  ·exact h y (List.mem_of_mem_drop hy)
theorem sealed_any (v:Value) (b:List Nat) (hb:12≤b.length) (hn:b.length≤100000000) (w:World) (hv:Bytes w v b) :
 Calls Tryz.prog 115 #[v] w fun e w'=>∃u,e=.returned u∧w'.ownsRow w.heap.size 5 1 u (sealedN b).length (encN .u8 (sealedN b))∧Below w.heap.size w w':=by
 have H1:=Lib.hid (with_any v b 8 0 (by decide) (by omega) (by omega) w hv);have hl:=withN_length (b:=b) (at_:=8) (x:=0) (by omega);have hlt:=withN_lt hv.2 8 0;have HSe:=Lib.hid (show sealedN b=withN (withN b 8 0) 8 (sumN (withN b 8 0))from rfl);generalize withN b 8 0=c at*;obtain⟨a0,c0,rfl,-⟩:=hv.1;have HLT:=Lib.hid hlt;clear hv hlt;go_enter Tryz.func115,Tryz.ntmps115;go_wp2_with fail;refine H1.out.mono ?_;rintro e w1⟨u,rfl,ho,hb1⟩;have HC:=Lib.hid (own_bytes ho HLT.out);have HB1:=Lib.hid hb1;obtain⟨a2,c2,rfl,-⟩:=own_sl ho;have H2:=Lib.hid (sum_bytes _ c w1 HC.out);have H3:=Lib.hid (with_any _ c 8 (sumN c) (sumN_lt c) (by omega) (by omega) w1 HC.out);rw[←HSe.out]at H3;clear ho hb1 H1;rw[hl]at H2 H3;generalize sumN c=x at*;go_wp2_with fail;refine H2.out.mono ?_;rintro e w2⟨rfl,rfl⟩;go_wp2_with fail;refine H3.out.mono ?_;rintro e w2⟨u2,rfl,ho2,hb2⟩;have HO:=Lib.hid (own_from (own_base ho2) (B:=w.heap.size) (fun g e=>Nat.le_trans HB1.out.size (ho2.lt g e).1));have HB2:=Lib.hid (Bel.tr HB1.out hb2);obtain⟨a3,c3,rfl,-⟩:=own_sl ho2;clear ho2 hb2;go_wp2_with fail;go_ret;exact⟨_,rfl,HO.out,HB2.out⟩
def encS (l:List (Nat×Nat)):List Value:=l.flatMap fun s=>[.int .u32 s.1,.int .u32 s.2]
theorem encS_length (l:List (Nat×Nat)):(encS l).length=l.length*2:=by
 induction l with
 | nil=>rfl
 | cons p l ih=>rw[show encS (p::l)=[.int .u32 p.1,.int .u32 p.2]++encS l from rfl,List.length_append,ih];simp;omega
theorem encS_append (l m:List (Nat×Nat)):encS (l++m)=encS l++encS m:=by simp[encS]
theorem encS_at (l:List (Nat×Nat)):∀k,k<l.length→(encS l)[k*2]?=some (.int .u32 (l.getD k (0,0)).1)∧(encS l)[k*2+1]?=some (.int .u32 (l.getD k (0,0)).2):=by
 induction l with
 | nil=>intro k h;simp at h
 | cons p l ih=>
  intro k h;have e:encS (p::l)=[.int .u32 p.1,.int .u32 p.2]++encS l:=rfl;cases k with
  | zero=>rw[e];exact⟨rfl,rfl⟩
  | succ k=>
   obtain⟨h1,h2⟩:=ih k (by simpa using h);rw[e]
   have f:∀t,([.int .u32 p.1,.int .u32 p.2]++encS l:List Value)[(k+1)*2+t]?=(encS l)[k*2+t]?:=fun t=>by
    rw[List.getElem?_append_right (by simp;omega)];congr 1;simp;omega
   exact⟨(f 0).trans h1,(f 1).trans h2⟩
theorem spansL_length:∀(a:Nat) (l:List Nat),(spansL a l).length=l.length
 | _,[]=>rfl
 | a,n::l=>by rw[spansL,List.length_cons,List.length_cons,spansL_length (a+n) l]
theorem spansL_take:∀(l:List Nat) (a k:Nat),k<l.length→(spansL a l).take (k+1)=(spansL a l).take k++[(a+(l.take k).sum,l.getD k 0)]
 | [],a,k,h=>by simp at h
 | n::l,a,0,h=>by simp[spansL]
 | n::l,a,k+1,h=>by
  have:=spansL_take l (a+n) k (by simpa using h);rw[spansL,List.take_succ_cons,this,List.take_succ_cons,List.cons_append,List.take_succ_cons,List.sum_cons,Nat.add_assoc];rfl
theorem sum_take_le:∀(l:List Nat) (k:Nat),(l.take k).sum≤l.sum
 | [],k=>by simp
 | n::l,0=>by simp
 | n::l,k+1=>by have:=sum_take_le l k;simp only[List.take_succ_cons,List.sum_cons];omega
theorem sum_take_succ:∀(l:List Nat) (k:Nat),k<l.length→(l.take (k+1)).sum=(l.take k).sum+l.getD k 0
 | [],k,h=>by simp at h
 | n::l,0,h=>by simp
 | n::l,k+1,h=>by
  have:=sum_take_succ l k (by simpa using h);simp only[List.take_succ_cons,List.sum_cons,List.getD_cons_succ]at this⊢;omega
theorem info225:(Tryz.prog.info? 189).map (fun i=>(i.zero,i.size,i.bytes))=some (some (.agg #[.int .u32 0,.int .u32 0]),2,8):=by kernel_rfl
theorem run_b225 (x y:Int) (w:World):(Instr.build 189 #[(0,.int .u32 x),(1,.int .u32 y)]).run Tryz.prog w=.ok (.agg #[.int .u32 x,.int .u32 y]) w:=by kernel_rfl
theorem run_bs221 (x y:Int) (w:World):(Instr.buildSlice 185 1 #[(0,.agg #[.int .u32 x,.int .u32 y])]).run Tryz.prog w=.ok (.slice (some ⟨w.heap.size,0,none⟩) 1 1) (w.alloc (.cells #[.int .u32 x,.int .u32 y] 189)):=by kernel_rfl
theorem laySpans_any (v:Value) (first:Nat) (l:List Nat) (hl:l.length≤1000) (hs:first+l.sum<4294967296) (w:World) (hv:Words w v l) :
 Calls Tryz.prog 114 #[.int .u32 first,v] w fun e w'=>∃u,e=.returned (.tuple #[u,.int .i64 0])∧w'.ownsRow w.heap.size 189 2 u l.length (encS (spansL first l))∧Below w.heap.size w w':=by
 obtain⟨i0,hi,hz0,hz1,hz2⟩:=info_parts info225;have hb225:=run_b225;have hb221:=run_bs221;obtain⟨⟨a,cap,rfl,hll,hnc,hcm,hnil,hp⟩,hlt⟩:=hv;have Hp:=Lib.hid hp;have Hlt:=Lib.hid hlt;have Hs:=Lib.hid hs;have hf32:first<4294967296:=by omega
 clear hp hlt hs hnil hll;go_enter Tryz.func114,Tryz.ntmps114;go_wp2_with fail
 go_loopw[6,7,14] (fun p u i wr=>∃k:Nat,k≤l.length∧i=.int .i64 k∧p=.int .u64 ((first+(l.take k).sum:Nat):Int)∧wr.ownsRow w.heap.size 189 2 u k (encS ((spansL first l).take k))∧Below w.heap.size w wr) (fun _ _ i _=>l.length - (intOf i).toNat)
 case atStart=>exact⟨0,by omega,rfl,by simp,World.ownsRow_nil _ _ _ _,Below.refl _ _⟩
 case round=>
  obtain⟨k,hk,rfl,rfl,ho,hb⟩:=hrel;have HO:=Lib.hid ho;have HB:=Lib.hid hb;clear ho hb;by_cases hlt:k<l.length
  ·obtain⟨b,off,rfl,hbl,hc⟩:=Hp.out (by omega)
   have hcc:=hc k (by rw[encN_length];exact hlt);rw[encN_at _ l k hlt]at hcc;have hcell:=(HB.out.cell (p:=⟨b,off+k,none⟩) hbl).trans hcc;have Ht:=Lib.hid (spansL_take l first k hlt);have Hsum:=Lib.hid (sum_take_succ l k hlt);have hle:=sum_take_le l (k+1);have hss:=Hs.out;have hx:=Hlt.out k;have hbd:first+(l.take k).sum+l.getD k 0≤4294967295:=by rw[Hsum.out]at hle;omega
   have HOo:=Lib.hid (own_base HO.out);clear hc hcc hle hss;generalize l.getD k 0=x at*;generalize (l.take k).sum=s at*;have hw:IntKind.u32.wrap ((first+s:Nat):Int)=((first+s:Nat):Int):=u32_wrap _ (by omega);have hki:(k:Int)<(l.length:Int):=by omega
   have hk0:(0:Int)≤(k:Int):=by omega
   go_wp2_with((with_reducible refine wpList_append1B (o:=⟨some 24,.call {callee:=.builtin .append,args:=#[.tmp 18,.tmp 23],argTypes:=#[185,185]},_,_,_,none⟩) rfl _ _ 185 rfl 189 i0 (.agg #[.int .u32 0,.int .u32 0]) 2 8 Tryz.underlying185 hi hz0 hz1 hz2 ?_ ?_ _ _ _ HOo.out _ _ wr.heap.size ?_ ?_ ?_ ?_ ?_ ?_ ?_ ?_);rfl;decide;rfl;rfl;rfl;rfl;(simp[Value.oneCell']);(unfold maxLen;omega);omega;intro g c w1 hr1 hg1 hl1)
   go_roundw
   case rel=>exact⟨k+1,by omega,by go_num,by rw[Hsum.out];go_num,by
    rw[Ht.out,encS_append]
    exact own_from hr1 (fun g' e=>by
     rcases hg1.2 g' e with h'|h'
     ·exact(HO.out.lt g' h').1
     ·have:=HB.out.size;omega),HB.out.grown hg1.1 HB.out.size (fun g' e=>(HO.out.lt g' e).1)⟩
   case measure=>simp[intOf];omega
  ·obtain rfl:k=l.length:=by omega
   have HF:=Lib.hid (show wr.ownsRow w.heap.size 189 2 u7 l.length (encS (spansL first l))from by
    have:=HO.out
    rwa [List.take_of_length_le (by rw[spansL_length];exact Nat.le_refl _)]at this)
   go_wp2_with fail;go_ret2;exact⟨_,rfl,HF.out,HB.out⟩
end Go.Proofs.YtdffaepbkecoeaaGreat
