/- Lemmas and walks on which the claims of this seat lean (names and blanks made short by a program): OOn OCloned OSh3 OSh4 ODesk OGoes OTownW OTown2 OInts OFind OHold OOpen0 OSh5. -/
import Derived.Test.YtbliehinagkldaaGreatDoorG02
import Derived.Test.YtbliehinagkldaaGreatDoorG03
import Derived.Test.YtbliehinagkldaaGreatDoorG05
import Derived.Test.YtbliehinagkldaaGreatDoorG06
import Derived.Sort.CutIn

set_option linter.all false
set_option maxRecDepth 100000
set_option maxHeartbeats 16000000
open Go.Lib renaming hid → fe6
open List renaming setIfInBounds_toArray → fe7, getElem?_toArray → ff0, set_cons_zero → ff1, set_cons_succ → ff2, length_append → ff4, drop_succ_cons → ff5, drop_zero → ff6, length_singleton → ff7, length_cons → ff8, nil_append → ff9, getElem?_eq_getElem → fg0, length_nil → fg1, cons_append → fg2, push_toArray → fg3, length_map → fg5
open Array renaming replicate_zero → fg8, replicate_succ → fg9
open Nat renaming le_refl → fh0, le_trans → fh1, add_zero → fh2, zero_le → fh3, lt_of_lt_of_le → fh4, ne_of_lt → fh5, reduceAdd → fh6, reduceSub → fh7
open Bool renaming and_eq_true → fh9
namespace Go.Proofs.YtbliehinagkldaaGreatDoor
section
open Go.RowKit
attribute [local go_sem] j4.drew j4.alloc j4.drewN WB.holds Oper.semAt_some
structure bv5 (H:j5) (E:Nat) (x:F7):Prop where
 h:∃fv,H E=some (.cells #[.string x.text,fv] 145 (0,0))∧cq6 H fv x.word x.nums
theorem bv5.mono {H H':j5} (k:D8 H H') {E:Nat} {x:F7} (h:bv5 H E x):bv5 H' E x:=let ⟨fv,h1,h2⟩:=h.h;⟨fv,k _ _ h1,h2.mono k⟩
theorem au3.no {w0 w':World} {H0 H:j5} {O:Nat} {t:D5} {w:ByteArray} {a:List Int} {e:Ending} (h:au3 w0 H0 H O t w a e w') (hc:M5 t w a=none):e= .returned (.bool false)∧∃H',Ext w0 H0 w' H'∧D8 H H':=by
 rcases h with⟨o,_,_,_,_,_,_,_,h1,_⟩|⟨_,h1,h2⟩
 ·rw[hc]at h1;cases h1
 ·exact⟨h1,h2⟩
theorem au3.yes {w0 w':World} {H0 H:j5} {O:Nat} {t o:D5} {w:ByteArray} {a:List Int} {e:Ending} (h:au3 w0 H0 H O t w a e w') (hc:M5 t w a=some o):∃vm vb vt um uo ua H',e= .returned (.bool true)∧aA5 w0 H0 O w' H' vm vb vt um uo ua o∧D8 H H':=by
 rcases h with⟨o',vm,vb,vt,um,uo,ua,H',h1,h2,h3,h4⟩|⟨h1,_⟩
 ·rw[hc]at h1;cases h1;exact⟨vm,vb,vt,um,uo,ua,H',h2,h3,h4⟩
 ·rw[hc]at h1;cases h1
structure M9 (R:Nat) (T:TypeId) (w:World) (a b c d e f g h:Value):Prop where
 at_:w.heap[R]? =some (.cells #[a,b,c,d,e,f,g,h] T (0,0))
section
variable {R:Nat} {T:TypeId} {w w':World} {a b c d e f g h:Value}
theorem M9.cells (r:M9 R T w a b c d e f g h):w.cell? ⟨R,0,none⟩=some a∧w.cell? ⟨R,1,none⟩=some b∧w.cell? ⟨R,2,none⟩=some c∧w.cell? ⟨R,3,none⟩=some d∧w.cell? ⟨R,4,none⟩=some e∧w.cell? ⟨R,5,none⟩=some f∧w.cell? ⟨R,6,none⟩=some g∧w.cell? ⟨R,7,none⟩=some h∧∀i,w.frozen? ⟨R,i,none⟩=false:=by
 refine⟨?_, ?_, ?_, ?_, ?_, ?_, ?_, ?_,fun i=>Lib.frozen_of_heap r.at_ i⟩<;>(rw[Lib.cell_of_heap r.at_];rfl)
theorem M9.set (r:M9 R T w a b c d e f g h) (a' b' c' d' e' f' g' h':Value):
 M9 R T ((((((((w.setCell ⟨R,0,none⟩ a').setCell ⟨R,1,none⟩ b').setCell ⟨R,2,none⟩ c').setCell ⟨R,3,none⟩ d').setCell ⟨R,4,none⟩ e').setCell ⟨R,5,none⟩ f').setCell ⟨R,6,none⟩ g').setCell ⟨R,7,none⟩ h') a' b' c' d' e' f' g' h':=by
 have:=M7 (i:=7) (M7 (i:=6) (M7 (i:=5) (M7 (i:=4) (M7 (i:=3) (M7 (i:=2) (M7 (i:=1) (M7 (i:=0) r.at_ a') b') c') d') e') f') g') h'
 simp only[fe7,ff1,ff2]at this
 exact⟨this⟩
theorem M9.below (r:M9 R T w a b c d e f g h) {n:Nat} (hb:Below n w w') (hn:R<n):M9 R T w' a b c d e f g h:=⟨(hb.block R hn).trans r.at_⟩
theorem Ext.aC3 {w0:World} {H0 H:j5} (x:Ext w0 H0 w H) (hR:w0.heap.size≤R) (hH:H R=none) (a' b' c' d' e' f' g' h':Value):
 Ext w0 H0 ((((((((w.setCell ⟨R,0,none⟩ a').setCell ⟨R,1,none⟩ b').setCell ⟨R,2,none⟩ c').setCell ⟨R,3,none⟩ d').setCell ⟨R,4,none⟩ e').setCell ⟨R,5,none⟩ f').setCell ⟨R,6,none⟩ g').setCell ⟨R,7,none⟩ h') H:=
 (((((((x.setCell (a:=⟨R,0,none⟩) hR hH a').setCell (a:=⟨R,1,none⟩) hR hH b').setCell (a:=⟨R,2,none⟩) hR hH c').setCell (a:=⟨R,3,none⟩) hR hH d').setCell (a:=⟨R,4,none⟩) hR hH e').setCell (a:=⟨R,5,none⟩) hR hH f').setCell (a:=⟨R,6,none⟩) hR hH g').setCell (a:=⟨R,7,none⟩) hR hH h'
end
def aX0 (w:World) (H:j5) (t:D5) (x:F7) (e:Ending) (w':World):Prop:=
 Post w H (fun v H'=>∃u,v= .tuple #[u,.bool (changed t x.word x.nums).2]∧bt6 H' u (changed t x.word x.nums).1) e w'
theorem cr6 (E:Nat) (x:F7) (vm vb vt um uo ua:Value) (t:D5) (v:F6 t=true) (H:j5) (w:World) (hw:j4 H w) (he:bv5 H E x) (ht:Twn H vm vb vt um uo ua t):
 Calls Tryz.prog 119 #[.pointer (some ⟨E,0,none⟩),ah0 vm vb vt um uo ua t] w (aX0 w H t x):=by
 obtain⟨fv,hE,f,cap,rfl,henter,hdo⟩:=he.h
 have hE1:∀W,j4 H W→W.cell? ⟨E,1,none⟩=some (.func (.func f) #[] cap):=fun W hW=>D7 hE hW 1
 have hch:changed t x.word x.nums=(match M5 t x.word x.nums with|some o=>if F6 o then(o,true)else(t,false)|none=>(t,false)):=rfl
 obtain⟨am,cm,rfl,_,_⟩:=ht.h.m.form
 obtain⟨ab,cb,rfl,_,_⟩:=ht.h.b.form
 obtain⟨at',ct,rfl,_,_⟩:=ht.h.t.form
 obtain⟨dm,em,rfl,_,_⟩:=ht.s.m.form
 obtain⟨do',eo,rfl,_,_⟩:=ht.s.o.form
 obtain⟨da,ea,rfl,_,_⟩:=ht.s.a.form
 cases hc:M5 t x.word x.nums with
 |none=>
  rw[hc]at hch
  have hd:=fun H1 (hle:D8 H H1) w0 W H0 O qm qb qt qu qo qa (r:aA5 w0 H0 O W H1 qm qb qt qu qo qa t)=>(hdo H1 hle w0 W H0 O qm qb qt qu qo qa t r v).mono (fun e w' h=>h.no hc)
  replace hd:=fe6 hd
  clear hdo hc he
  unfold aX0
  rw[hch]
  clear hch
  have ht0:=fe6 ht
  go_enter Tryz.func119,Tryz.ntmps119
  go_upto_region 2 with(refine af8 rfl _ rfl (Ext.refl hw) ?_;intro B w1 H1 hle hx hB hBw;obtain⟨hc0,hc1,hc2,hc3,hc4,O8,hc6,O9⟩:=I5 hB;clear hB hw;have hw1:=hx.holds)
  have xa:=hx.alloc (.cells #[.slice none 0 0,.slice none 0 0,.slice none 0 0,.int .i64 0,.slice none 0 0,.slice none 0 0,.slice none 0 0,.int .i64 0] 32)
  have c0:=J4.new (Ext.refl xa.holds) #[.slice am t.h.ms.length cm,.slice ab t.h.bs.length cb,.slice at' t.h.ts.length ct,.int .i64 t.h.ch,.slice dm t.s.mo.length em,.slice do' t.s.wo.length eo,.slice da t.s.wa.length ea,.int .i64 t.s.fr] 32
  have rz:M9 w1.heap.size 32 (w1.alloc (.cells #[.slice none 0 0,.slice none 0 0,.slice none 0 0,.int .i64 0,.slice none 0 0,.slice none 0 0,.slice none 0 0,.int .i64 0] 32)) _ _ _ _ _ _ _ _:=⟨heap_alloc_new w1 _⟩
  have r0:aA5 (w1.alloc (.cells #[.slice none 0 0,.slice none 0 0,.slice none 0 0,.int .i64 0,.slice none 0 0,.slice none 0 0,.slice none 0 0,.int .i64 0] 32)) H1 _ _ H1 _ _ _ _ _ _ t:=⟨c0,ht0.out.mono hle⟩
  have hd2:=hd.out H1 hle _ _ _ _ _ _ _ _ _ _ r0
  have hRH:H1 w1.heap.size=none:=hw1.D6 (fh0 _)
  have hRb:w.heap.size≤w1.heap.size:=hx.below.size
  have hRl:w1.heap.size<(w1.alloc (.cells #[.slice none 0 0,.slice none 0 0,.slice none 0 0,.int .i64 0,.slice none 0 0,.slice none 0 0,.slice none 0 0,.int .i64 0] 32)).heap.size:=by simp
  have c0h:=c0.x.holds
  rw[World.size_alloc]at hd2
  replace hd2:=fe6 hd2
  have hE2:=lift hle hE1
  go_wp2_with(refine hd2.out.mono ?_;rintro e w3 ⟨rfl,H',x3,I9⟩;have rw3:=rz.below x3.below hRl;obtain⟨z0,z1,z2,z3,z4,z5,z6,z7,zf⟩:=rw3.cells;have hw3:=x3.holds;have d0:=lift I9 hc0;have d1:=lift I9 hc1;have d2:=lift I9 hc2;have d3:=lift I9 hc3;have d4:=lift I9 hc4;have d5:=lift I9 O8;have d6:=lift I9 hc6;have d7:=lift I9 O9)
  (try simp only[Exit.inBlock,Exit.then])
  refine bodyPost_ret (N8 rfl _ _ w1.heap.size 32 _ (0,0) _ rfl (rw3.set _ _ _ _ _ _ _ _).at_ Tryz.underlying32 rfl (by kernel_rfl)) rfl ?_
  exact⟨_,H',rfl,Ext.aC3 (xa.trans x3) hRb ((x3.same _ hRl).trans hRH) _ _ _ _ _ _ _ _,_,rfl,_,_,_,_,_,_,rfl,ht0.out.mono (hle.trans I9)⟩
 |some o=>
  rw[hc]at hch
  simp only at hch
  cases hv:F6 o
  ·rw[hv]at hch
   simp only[Bool.false_eq_true,if_false]at hch
   have hck:=fun(vm vb vt um uo ua:Value) (H':j5) (W:World) (hW:j4 H' W) (h:Twn H' vm vb vt um uo ua o)=>bi6 vm vb vt um uo ua o H' W hW h
   rw[hv]at hck
   replace hck:=fe6 hck
   clear hv
   have hd:=fun H1 (hle:D8 H H1) w0 W H0 O qm qb qt qu qo qa (r:aA5 w0 H0 O W H1 qm qb qt qu qo qa t)=>(hdo H1 hle w0 W H0 O qm qb qt qu qo qa t r v).mono (fun e w' h=>h.yes hc)
   replace hd:=fe6 hd
   clear hdo hc he
   unfold aX0
   rw[hch]
   clear hch
   have ht0:=fe6 ht
   go_enter Tryz.func119,Tryz.ntmps119
   go_upto_region 2 with(refine af8 rfl _ rfl (Ext.refl hw) ?_;intro B w1 H1 hle hx hB hBw;obtain⟨hc0,hc1,hc2,hc3,hc4,O8,hc6,O9⟩:=I5 hB;clear hB hw;have hw1:=hx.holds)
   have xa:=hx.alloc (.cells #[.slice none 0 0,.slice none 0 0,.slice none 0 0,.int .i64 0,.slice none 0 0,.slice none 0 0,.slice none 0 0,.int .i64 0] 32)
   have c0:=J4.new (Ext.refl xa.holds) #[.slice am t.h.ms.length cm,.slice ab t.h.bs.length cb,.slice at' t.h.ts.length ct,.int .i64 t.h.ch,.slice dm t.s.mo.length em,.slice do' t.s.wo.length eo,.slice da t.s.wa.length ea,.int .i64 t.s.fr] 32
   have rz:M9 w1.heap.size 32 (w1.alloc (.cells #[.slice none 0 0,.slice none 0 0,.slice none 0 0,.int .i64 0,.slice none 0 0,.slice none 0 0,.slice none 0 0,.int .i64 0] 32)) _ _ _ _ _ _ _ _:=⟨heap_alloc_new w1 _⟩
   have r0:aA5 (w1.alloc (.cells #[.slice none 0 0,.slice none 0 0,.slice none 0 0,.int .i64 0,.slice none 0 0,.slice none 0 0,.slice none 0 0,.int .i64 0] 32)) H1 _ _ H1 _ _ _ _ _ _ t:=⟨c0,ht0.out.mono hle⟩
   have hd2:=hd.out H1 hle _ _ _ _ _ _ _ _ _ _ r0
   have hRH:H1 w1.heap.size=none:=hw1.D6 (fh0 _)
   have hRb:w.heap.size≤w1.heap.size:=hx.below.size
   have hRl:w1.heap.size<(w1.alloc (.cells #[.slice none 0 0,.slice none 0 0,.slice none 0 0,.int .i64 0,.slice none 0 0,.slice none 0 0,.slice none 0 0,.int .i64 0] 32)).heap.size:=by simp
   have c0h:=c0.x.holds
   rw[World.size_alloc]at hd2
   replace hd2:=fe6 hd2
   have hE2:=lift hle hE1
   go_wp2_with(first|(have hgd:=k9;clear hgd;go_at_call 48;refine(hck.out _ _ _ _ _ _ H' _ hw3 t3.out).mono ?_;rintro e w4 ⟨rfl,hb4⟩;replace x3:=x3.step (hb4.mono x3.below.size) (hw3.below hb4);replace rw3:=rw3.below hb4 (fh4 hRl k8);clear z0 z1 z2 z3 z4 z5 z6 z7 zf hw3 y0 y1 y2 y3 y4 y5 y6 y7 yf;obtain⟨z0,z1,z2,z3,z4,z5,z6,z7,zf⟩:=rw3.cells;have hw3:=x3.holds;have d0:=lift I9 hc0;have d1:=lift I9 hc1;have d2:=lift I9 hc2;have d3:=lift I9 hc3;have d4:=lift I9 hc4;have d5:=lift I9 O8;have d6:=lift I9 hc6;have d7:=lift I9 O9;replace rO:=rO.below hb4 (Array.getElem?_eq_some_iff.1 rO.at_).1;obtain⟨y0,y1,y2,y3,y4,y5,y6,y7,yf⟩:=rO.cells)|(refine hd2.out.mono ?_;rintro e w3 ⟨qm,qb,qt,qu,qo,qa,H',rfl,r3,I9⟩;have k9:True:=trivial;obtain⟨p0,n0,rfl,_,_⟩:=r3.t.h.m.form;obtain⟨p1,n1,rfl,_,_⟩:=r3.t.h.b.form;obtain⟨p2,n2,rfl,_,_⟩:=r3.t.h.t.form;obtain⟨p3,n3,rfl,_,_⟩:=r3.t.s.m.form;obtain⟨p4,n4,rfl,_,_⟩:=r3.t.s.o.form;obtain⟨p5,n5,rfl,_,_⟩:=r3.t.s.a.form;have x3:=r3.c.x;have k8:=x3.below.size;have rw3:=rz.below x3.below hRl;have t3:=fe6 r3.t;obtain⟨z0,z1,z2,z3,z4,z5,z6,z7,zf⟩:=rw3.cells;have hw3:=x3.holds;have d0:=lift I9 hc0;have d1:=lift I9 hc1;have d2:=lift I9 hc2;have d3:=lift I9 hc3;have d4:=lift I9 hc4;have d5:=lift I9 O8;have d6:=lift I9 hc6;have d7:=lift I9 O9;have rO:M9 _ 32 w3 _ _ _ _ _ _ _ _:=⟨r3.c.at_⟩;obtain⟨y0,y1,y2,y3,y4,y5,y6,y7,yf⟩:=rO.cells;clear r3))
   (try simp only[Exit.inBlock,Exit.then])
   refine bodyPost_ret (N8 rfl _ _ w1.heap.size 32 _ (0,0) _ rfl (rw3.set _ _ _ _ _ _ _ _).at_ Tryz.underlying32 rfl (by kernel_rfl)) rfl ?_
   exact⟨_,H',rfl,Ext.aC3 (xa.trans x3) hRb ((x3.same _ hRl).trans hRH) _ _ _ _ _ _ _ _,_,rfl,_,_,_,_,_,_,rfl,ht0.out.mono (hle.trans I9)⟩
  ·rw[hv]at hch
   simp only[if_true]at hch
   have hck:=fun(vm vb vt um uo ua:Value) (H':j5) (W:World) (hW:j4 H' W) (h:Twn H' vm vb vt um uo ua o)=>bi6 vm vb vt um uo ua o H' W hW h
   rw[hv]at hck
   replace hck:=fe6 hck
   clear hv
   have hd:=fun H1 (hle:D8 H H1) w0 W H0 O qm qb qt qu qo qa (r:aA5 w0 H0 O W H1 qm qb qt qu qo qa t)=>(hdo H1 hle w0 W H0 O qm qb qt qu qo qa t r v).mono (fun e w' h=>h.yes hc)
   replace hd:=fe6 hd
   clear hdo hc he
   unfold aX0
   rw[hch]
   clear hch
   have ht0:=fe6 ht
   go_enter Tryz.func119,Tryz.ntmps119
   go_upto_region 2 with(refine af8 rfl _ rfl (Ext.refl hw) ?_;intro B w1 H1 hle hx hB hBw;obtain⟨hc0,hc1,hc2,hc3,hc4,O8,hc6,O9⟩:=I5 hB;clear hB hw;have hw1:=hx.holds)
   have xa:=hx.alloc (.cells #[.slice none 0 0,.slice none 0 0,.slice none 0 0,.int .i64 0,.slice none 0 0,.slice none 0 0,.slice none 0 0,.int .i64 0] 32)
   have c0:=J4.new (Ext.refl xa.holds) #[.slice am t.h.ms.length cm,.slice ab t.h.bs.length cb,.slice at' t.h.ts.length ct,.int .i64 t.h.ch,.slice dm t.s.mo.length em,.slice do' t.s.wo.length eo,.slice da t.s.wa.length ea,.int .i64 t.s.fr] 32
   have rz:M9 w1.heap.size 32 (w1.alloc (.cells #[.slice none 0 0,.slice none 0 0,.slice none 0 0,.int .i64 0,.slice none 0 0,.slice none 0 0,.slice none 0 0,.int .i64 0] 32)) _ _ _ _ _ _ _ _:=⟨heap_alloc_new w1 _⟩
   have r0:aA5 (w1.alloc (.cells #[.slice none 0 0,.slice none 0 0,.slice none 0 0,.int .i64 0,.slice none 0 0,.slice none 0 0,.slice none 0 0,.int .i64 0] 32)) H1 _ _ H1 _ _ _ _ _ _ t:=⟨c0,ht0.out.mono hle⟩
   have hd2:=hd.out H1 hle _ _ _ _ _ _ _ _ _ _ r0
   have hRH:H1 w1.heap.size=none:=hw1.D6 (fh0 _)
   have hRb:w.heap.size≤w1.heap.size:=hx.below.size
   have hRl:w1.heap.size<(w1.alloc (.cells #[.slice none 0 0,.slice none 0 0,.slice none 0 0,.int .i64 0,.slice none 0 0,.slice none 0 0,.slice none 0 0,.int .i64 0] 32)).heap.size:=by simp
   have c0h:=c0.x.holds
   rw[World.size_alloc]at hd2
   replace hd2:=fe6 hd2
   have hE2:=lift hle hE1
   go_wp2_with(first|(have hgd:=k9;clear hgd;go_at_call 48;refine(hck.out _ _ _ _ _ _ H' _ hw3 t3.out).mono ?_;rintro e w4 ⟨rfl,hb4⟩;replace x3:=x3.step (hb4.mono x3.below.size) (hw3.below hb4);replace rw3:=rw3.below hb4 (fh4 hRl k8);clear z0 z1 z2 z3 z4 z5 z6 z7 zf hw3 y0 y1 y2 y3 y4 y5 y6 y7 yf;obtain⟨z0,z1,z2,z3,z4,z5,z6,z7,zf⟩:=rw3.cells;have hw3:=x3.holds;have d0:=lift I9 hc0;have d1:=lift I9 hc1;have d2:=lift I9 hc2;have d3:=lift I9 hc3;have d4:=lift I9 hc4;have d5:=lift I9 O8;have d6:=lift I9 hc6;have d7:=lift I9 O9;replace rO:=rO.below hb4 (Array.getElem?_eq_some_iff.1 rO.at_).1;obtain⟨y0,y1,y2,y3,y4,y5,y6,y7,yf⟩:=rO.cells)|(refine hd2.out.mono ?_;rintro e w3 ⟨qm,qb,qt,qu,qo,qa,H',rfl,r3,I9⟩;have k9:True:=trivial;obtain⟨p0,n0,rfl,_,_⟩:=r3.t.h.m.form;obtain⟨p1,n1,rfl,_,_⟩:=r3.t.h.b.form;obtain⟨p2,n2,rfl,_,_⟩:=r3.t.h.t.form;obtain⟨p3,n3,rfl,_,_⟩:=r3.t.s.m.form;obtain⟨p4,n4,rfl,_,_⟩:=r3.t.s.o.form;obtain⟨p5,n5,rfl,_,_⟩:=r3.t.s.a.form;have x3:=r3.c.x;have k8:=x3.below.size;have rw3:=rz.below x3.below hRl;have t3:=fe6 r3.t;obtain⟨z0,z1,z2,z3,z4,z5,z6,z7,zf⟩:=rw3.cells;have hw3:=x3.holds;have d0:=lift I9 hc0;have d1:=lift I9 hc1;have d2:=lift I9 hc2;have d3:=lift I9 hc3;have d4:=lift I9 hc4;have d5:=lift I9 O8;have d6:=lift I9 hc6;have d7:=lift I9 O9;have rO:M9 _ 32 w3 _ _ _ _ _ _ _ _:=⟨r3.c.at_⟩;obtain⟨y0,y1,y2,y3,y4,y5,y6,y7,yf⟩:=rO.cells;clear r3))
   (try simp only[Exit.inBlock,Exit.then])
   refine bodyPost_ret (N8 rfl _ _ w1.heap.size 32 _ (0,0) _ rfl (rw3.set _ _ _ _ _ _ _ _).at_ Tryz.underlying32 rfl (by kernel_rfl)) rfl ?_
   exact⟨_,H',rfl,Ext.aC3 (xa.trans x3) hRb ((x3.same _ hRl).trans hRH) _ _ _ _ _ _ _ _,_,rfl,_,_,_,_,_,_,rfl,t3.out⟩
end
section
open Go.RowKit
attribute [local go_sem] j4.drew j4.alloc j4.drewN WB.holds Oper.semAt_some
section
variable {P:Program} {ops:Array Oper} {o:Oper} {a:Act} {Q:Exit→Act→World→Prop} {rest:List Oper} {w w0:World} {H H0:j5}
theorem cB4 {t:TypeId} (hgd:o.guard=none) (y:Operand) (ho:o.op= .box t y) (hx:Ext w0 H0 w H)
 (h:∀B w1,J4 w0 H0 B t w1 H (a.eval y).cells→wpList P ops Q rest (a.put o.dst (.pointer (some ⟨B,0,none⟩))) w1):wpList P ops Q (o::rest) a w:=by
 refine wpList_plain hgd fun K hK=> ?_
 unfold Oper.wp execOp
 simp only[ho,Instr.box,newVar,newRow,Sem.run_bind,run_newObj,Sem.run_pure,Result.andThen_ok]
 exact hK _ _ (h w.heap.size (w.alloc (.cells (a.eval y).cells t)) (J4.new hx _ _))
end
section
variable {w0 w w':World} {H0 H H':j5} {O:Nat} {T:TypeId} {cur:Array Value}
theorem J4.off (c:J4 w0 H0 O T w H cur) {a:Addr} (hb:w0.heap.size≤a.block) (ha:H a.block=none) (hne:a.block≠O) (v:Value):J4 w0 H0 O T (w.setCell a v) H cur:=
 ⟨c.x.setCell hb ha v,(heap_setCell_other w a O v (Ne.symm hne)).trans c.at_,c.ob,c.oH⟩
end
theorem eLI:af2 Tryz.prog 28 24 (List Int):= .mk' (.slice none 0 0) Tryz.underlying28 (by kernel_rfl) rfl (by decide)
theorem dR9 {α:Type} {l:List α} {k:Nat} {x:α} (h:At l k x):l.set k x=l:=by
 obtain⟨hk,e⟩:=List.getElem?_eq_some_iff.1 h
 rw[←e];exact List.set_getElem_self hk
theorem aT8 (vm vb vt um uo ua:Value) (t:D5) (hl:t.h.ms.length≤100000∧t.h.bs.length≤100000∧t.h.ts.length≤100000∧t.s.mo.length≤100000∧t.s.wo.length≤100000∧t.s.wa.length≤100000∧∀x∈t.s.wo,x.length≤100000) (H:j5) (w:World) (hw:j4 H w) (ht:Twn H vm vb vt um uo ua t):
 Calls Tryz.prog 78 #[ah0 vm vb vt um uo ua t] w (Post w H fun u H'=>bt6 H' u t):=by
 obtain⟨hl1,hl2,hl3,hl4,hl5,hl6,hl7⟩:=hl
 have hm:=ht.h.m
 have hb:=ht.h.b
 have htt:=ht.h.t
 have hmo:=ht.s.m
 have hwo:=ht.s.o
 have hwa:=ht.s.a
 have hI:=ht.h.c
 have hI2:=ht.s.f
 clear ht
 obtain⟨a0,c0,rfl,_,_⟩:=hm.form
 obtain⟨a1,c1,rfl,_,_⟩:=hb.form
 obtain⟨a2,c2,rfl,_,_⟩:=htt.form
 obtain⟨a3,c3,rfl,_,_⟩:=hmo.form
 obtain⟨a4,c4,rfl,_,_⟩:=hwo.form
 obtain⟨a5,c5,rfl,_,_⟩:=hwa.form
 go_enter Tryz.func78,Tryz.ntmps78
 go_upto_region 1 with(refine cB4 rfl _ rfl (Ext.refl hw) ?_;intro B w0 cA0;change J4 w H B 32 w0 H #[.slice a0 t.h.ms.length c0,.slice a1 t.h.bs.length c1,.slice a2 t.h.ts.length c2,.int .i64 t.h.ch,.slice a3 t.s.mo.length c3,.slice a4 t.s.wo.length c4,.slice a5 t.s.wa.length c5,.int .i64 t.s.fr]at cA0)
 have hRB:w0.heap.size≠B:=Nat.ne_of_gt cA0.lt
 have cA:=cA0.alloc (.cells #[.slice none 0 0,.slice none 0 0,.slice none 0 0,.int .i64 0,.slice none 0 0,.slice none 0 0,.slice none 0 0,.int .i64 0] 32)
 have rA:=J4.new cA0.x #[.slice none 0 0,.slice none 0 0,.slice none 0 0,.int .i64 0,.slice none 0 0,.slice none 0 0,.slice none 0 0,.int .i64 0] 32
 generalize eu6:w0.alloc (.cells #[.slice none 0 0,.slice none 0 0,.slice none 0 0,.int .i64 0,.slice none 0 0,.slice none 0 0,.slice none 0 0,.int .i64 0] 32)=wA at*
 generalize w0.heap.size=R at*
 clear eu6 cA0
 obtain⟨HB,hwB,lB,hBB,_⟩:=cA.put
 have f0:∀W,j4 HB W→W.cell? ⟨B,0,none⟩=_:=fun W h=>D7 hBB h 0
 have f1:∀W,j4 HB W→W.cell? ⟨B,1,none⟩=_:=fun W h=>D7 hBB h 1
 have f2:∀W,j4 HB W→W.cell? ⟨B,2,none⟩=_:=fun W h=>D7 hBB h 2
 simp at f0 f1 f2
 refine U1 (S:=(fun w'=>j4 HB w')) 14 (by kernel_rfl) (by kernel_rfl) ?_ (fun N9=> ?_)
 ·(try dsimp only)
  (first|assumption|exact j4.drew ‹_›)
 simp only[ff8,fg1,fh6,fh7,fg9,fg8,fg3,ff9,fg2]
 refine hdA 0 ?_
 refine hdA 1 ?_
 refine hdA 2 ?_
 refine hdA 4 ?_
 refine hdA 5 ?_
 refine hdA 6 ?_
 refine hdA 8 ?_
 refine hdA 9 ?_
 refine hdA 10 ?_
 (try simp only[Act.put,fe7,ff1,ff2])
 refine hdR 3 [] (fun K hK=> ?_) r9.nil
 (go_simp;go_at_call 127;go_must (refine(bD1 _ t.h.ms (by omega) H _ cA.drew.x.holds hm).mono ?_);rintro e w3 ⟨v3,HH3,rfl,xx3,oo3⟩;obtain⟨H3,y3,l3,s3,_⟩:=oo3.close xx3;obtain⟨p3,q3,rfl,_,_⟩:=oo3.form;have c3:=(cA.drew).ext y3;have r3:=(rA.drew).ext y3;have k3:j4 HB w3:=j4.below (by first|assumption|exact j4.drew ‹_›) y3.below)
 refine hK.out _ _ ?_ (fun I4=> ?_)
 ·(try dsimp only)
  (first|assumption|exact j4.drew ‹_›)
 clear hK K N9
 refine hdA 12 ?_
 refine hdA 13 ?_
 (try simp only[Act.put,fe7,ff1,ff2])
 refine hdR 7 [] (fun K hK=> ?_) r9.nil
 (go_simp;go_at_call 128;go_must (refine(cy4 _ t.h.bs (by omega) H3 _ c3.x.holds (hb.mono (y3.le cA.x.holds.drew))).mono ?_);rintro e w7 ⟨v7,HH7,rfl,xx7,oo7⟩;obtain⟨H7,y7,l7,s7,_⟩:=oo7.close xx7;obtain⟨p7,q7,rfl,_,_⟩:=oo7.form;have c7:=(c3).ext y7;have r7:=(r3).ext y7;have k7:j4 HB w7:=j4.below (by first|assumption|exact j4.drew ‹_›) y7.below)
 refine hK.out _ _ ?_ (fun F8=> ?_)
 ·(try dsimp only)
  (first|assumption|exact j4.drew ‹_›)
 clear hK K I4
 (try simp only[Act.put,fe7,ff1,ff2])
 refine hdR 11 [] (fun K hK=> ?_) r9.nil
 (go_simp;go_at_call 96;go_must (refine(aN8 _ t.h.ts (by omega) H7 _ c7.x.holds ((htt.mono (y3.le cA.x.holds.drew)).mono (y7.le c3.x.holds))).mono ?_);rintro e w11 ⟨v11,eU1,rfl,dS2,ds8⟩;obtain⟨H11,y11,l11,s11,_⟩:=ds8.close dS2;obtain⟨p11,q11,rfl,_,_⟩:=ds8.form;have c11:=(c7).ext y11;have r11:=(r7).ext y11;have k11:j4 HB w11:=j4.below (by first|assumption|exact j4.drew ‹_›) y11.below)
 refine hK.out _ _ ?_ (fun F9=> ?_)
 ·(try dsimp only)
  (first|assumption|exact j4.drew ‹_›)
 clear hK K F8
 (try simp only[Act.put,fe7,ff1,ff2])
 refine G9 (by kernel_rfl) ?_
 simp only[ff5,ff6]
 have m0:=c11.cell 0
 have m1:=c11.cell 1
 have m2:=c11.cell 2
 have mf:=c11.fz
 simp at m0 m1 m2
 go_upto_region 2 with fail
 have cB:=((c11.set 0 (.slice p3 t.h.ms.length q3)).set 1 (.slice p7 t.h.bs.length q7)).set 2 (.slice p11 t.h.ts.length q11)
 have rB:=((r11.off (a:=⟨B,0,none⟩) c11.ob c11.oH (Ne.symm hRB) (.slice p3 t.h.ms.length q3)).off (a:=⟨B,1,none⟩) c11.ob c11.oH (Ne.symm hRB) (.slice p7 t.h.bs.length q7)).off (a:=⟨B,2,none⟩) c11.ob c11.oH (Ne.symm hRB) (.slice p11 t.h.ts.length q11)
 simp only[fe7,ff1,ff2]at cB
 generalize eu7:((w11.setCell ⟨B,0,none⟩ (.slice p3 t.h.ms.length q3)).setCell ⟨B,1,none⟩ (.slice p7 t.h.bs.length q7)).setCell ⟨B,2,none⟩ (.slice p11 t.h.ts.length q11)=wC at*
 have sm:=(s3.mono (y7.le c3.x.holds)).mono (y11.le c7.x.holds)
 have sb:=s7.mono (y11.le c7.x.holds)
 have bV6:D8 H H11:=cB.x.le hw
 clear eu7 m0 m1 m2 mf c11 r11 c7 r7 c3 r3 k3 k7 k11 y3 y7 y11 oo3 oo7 ds8 xx3 xx7 dS2 f0 f1 f2 hwB hBB lB cA rA s3 s7
 obtain⟨HB,hwB,lB,hBB,_⟩:=cB.put
 have f4:∀W,j4 HB W→W.cell? ⟨B,4,none⟩=_:=fun W h=>D7 hBB h 4
 have f5:∀W,j4 HB W→W.cell? ⟨B,5,none⟩=_:=fun W h=>D7 hBB h 5
 have f6:∀W,j4 HB W→W.cell? ⟨B,6,none⟩=_:=fun W h=>D7 hBB h 6
 simp at f4 f5 f6
 have aH7:=hmo.mono bV6
 have ay6:=hwa.mono bV6
 have bV8:=hwo.mono bV6
 refine U1 (S:=(fun w'=>j4 HB w')) 14 (by kernel_rfl) (by kernel_rfl) ?_ (fun N9=> ?_)
 ·(try dsimp only)
  (first|assumption|exact j4.drew ‹_›)
 simp only[ff8,fg1,fh6,fh7,fg9,fg8,fg3,ff9,fg2]
 refine hdA 0 ?_
 refine hdA 1 ?_
 refine hdA 2 ?_
 refine hdA 4 ?_
 refine hdA 5 ?_
 refine hdA 6 ?_
 refine hdA 8 ?_
 refine hdA 9 ?_
 refine hdA 10 ?_
 (try simp only[Act.put,fe7,ff1,ff2])
 refine hdR 3 [] (fun K hK=> ?_) r9.nil
 (go_simp;go_at_call 129;go_must (refine(bD2 _ t.s.mo (by omega) H11 _ cB.drew.x.holds aH7).mono ?_);rintro e w23 ⟨v23,eU2,rfl,dS3,ds9⟩;obtain⟨H23,y23,l23,s23,_⟩:=ds9.close dS3;obtain⟨p23,q23,rfl,_,_⟩:=ds9.form;have c23:=(cB.drew).ext y23;have r23:=(rB.drew).ext y23;have k23:j4 HB w23:=j4.below (by first|assumption|exact j4.drew ‹_›) y23.below)
 refine hK.out _ _ ?_ (fun I4=> ?_)
 ·(try dsimp only)
  (first|assumption|exact j4.drew ‹_›)
 clear hK K N9
 refine hdA 12 ?_
 refine hdA 13 ?_
 (try simp only[Act.put,fe7,ff1,ff2])
 refine hdR 7 [] (fun K hK=> ?_) r9.nil
 (go_simp;go_at_call 96;go_must (refine(aN8 _ t.s.wa (by omega) H23 _ c23.x.holds (ay6.mono (y23.le cB.x.holds.drew))).mono ?_);rintro e w27 ⟨v27,eU3,rfl,dS4,dt0⟩;obtain⟨H27,y27,l27,s27,_⟩:=dt0.close dS4;obtain⟨p27,q27,rfl,_,_⟩:=dt0.form;have c27:=(c23).ext y27;have r27:=(r23).ext y27;have k27:j4 HB w27:=j4.below (by first|assumption|exact j4.drew ‹_›) y27.below)
 refine hK.out _ _ ?_ (fun F8=> ?_)
 ·(try dsimp only)
  (first|assumption|exact j4.drew ‹_›)
 clear hK K I4
 (try simp only[Act.put,fe7,ff1,ff2])
 refine hdR 11 [] (fun K hK=> ?_) r9.nil
 (go_simp;go_at_call 130;go_must (refine(cy5 _ t.s.wo (by omega) H27 _ c27.x.holds ((bV8.mono (y23.le cB.x.holds.drew)).mono (y27.le c23.x.holds))).mono ?_);rintro e w31 ⟨v31,eu8,rfl,dS6,dt1⟩;have y31:=dS6;have o31:=dt1;obtain⟨p31,q31,rfl,_,_⟩:=dt1.form;have c31:=(c27).ext y31;have r31:=(r27).ext y31;have k31:j4 HB w31:=j4.below (by first|assumption|exact j4.drew ‹_›) y31.below)
 refine hK.out _ _ ?_ (fun F9=> ?_)
 ·(try dsimp only)
  (first|assumption|exact j4.drew ‹_›)
 clear hK K F8
 (try simp only[Act.put,fe7,ff1,ff2])
 refine G9 (by kernel_rfl) ?_
 simp only[ff5,ff6]
 have m0:=c31.cell 4
 have m1:=c31.cell 6
 have m2:=c31.cell 5
 have mf:=c31.fz
 simp at m0 m1 m2
 go_upto_region 3 with fail
 have dt2:(Value.slice p31 t.s.wo.length q31).ownBlock≠some B:=fun e=>by have:=(o31.lt _ e).1;have:=c27.lt;omega
 have bl6:(Value.slice p31 t.s.wo.length q31).ownBlock≠some R:=fun e=>by have:=(o31.lt _ e).1;have:=r27.lt;omega
 have cD:=((c31.set 4 (.slice p23 t.s.mo.length q23)).set 6 (.slice p27 t.s.wa.length q27)).set 5 (.slice p31 t.s.wo.length q31)
 have rD:=((r31.off (a:=⟨B,4,none⟩) c31.ob c31.oH (Ne.symm hRB) (.slice p23 t.s.mo.length q23)).off (a:=⟨B,6,none⟩) c31.ob c31.oH (Ne.symm hRB) (.slice p27 t.s.wa.length q27)).off (a:=⟨B,5,none⟩) c31.ob c31.oH (Ne.symm hRB) (.slice p31 t.s.wo.length q31)
 have oD:=((o31.setCell (a:=⟨B,4,none⟩) dt2 (.slice p23 t.s.mo.length q23)).setCell (a:=⟨B,6,none⟩) dt2 (.slice p27 t.s.wa.length q27)).setCell (a:=⟨B,5,none⟩) dt2 (.slice p31 t.s.wo.length q31)
 simp only[fe7,ff1,ff2]at cD
 generalize eu9:((w31.setCell ⟨B,4,none⟩ (.slice p23 t.s.mo.length q23)).setCell ⟨B,6,none⟩ (.slice p27 t.s.wa.length q27)).setCell ⟨B,5,none⟩ (.slice p31 t.s.wo.length q31)=wD at*
 replace sm:=((sm.mono (y23.le cB.x.holds.drew)).mono (y27.le c23.x.holds)).mono (y31.le c27.x.holds)
 replace sb:=((sb.mono (y23.le cB.x.holds.drew)).mono (y27.le c23.x.holds)).mono (y31.le c27.x.holds)
 have st:=((s11.mono (y23.le cB.x.holds.drew)).mono (y27.le c23.x.holds)).mono (y31.le c27.x.holds)
 have so:=(s23.mono (y27.le c23.x.holds)).mono (y31.le c27.x.holds)
 have sa:=s27.mono (y31.le c27.x.holds)
 replace oD:=oD.weaken (base:=w.heap.size) c27.x.below.size
 clear eu9 m0 m1 m2 mf c31 r31 c27 r27 c23 r23 k23 k27 k31 y23 y27 y31 ds9 dt0 dt1 dS3 dS4 dS6 f4 f5 f6 hwB hBB lB cB rB o31 s11 s23 s27 aH7 ay6 bV8 hm hb htt hmo hwo hwa
 have d5:=cD.cell 5
 simp at d5
 have eQ9:(0:Int)≤(t.s.wo.length:Int):=by omega
 go_wp2
 go_loopw [45] (fun i wr=>∃(k:Nat) (Hc:j5),k≤t.s.wo.length∧i= .int .i64 (k:Int)∧D8 eu8 Hc∧J4 w H B 32 wr Hc #[.slice p3 t.h.ms.length q3,.slice p7 t.h.bs.length q7,.slice p11 t.h.ts.length q11,.int .i64 t.h.ch,.slice p23 t.s.mo.length q23,.slice p31 t.s.wo.length q31,.slice p27 t.s.wa.length q27,.int .i64 t.s.fr]∧J4 w H R 32 wr Hc #[.slice none 0 0,.slice none 0 0,.slice none 0 0,.int .i64 0,.slice none 0 0,.slice none 0 0,.slice none 0 0,.int .i64 0]∧Own Hc w.heap.size wr 24 (.slice p31 t.s.wo.length q31) t.s.wo) (fun i _=>t.s.wo.length-(intOf i).toNat)
 case atStart=>exact⟨0,_,fh3 _,rfl,D8.refl _,cD,rD,oD⟩
 case round=>
  clear cD rD oD d5
  obtain⟨k,Hc,hk,rfl,hlD,cK,rK,oK⟩:=hrel
  have hk0:(0:Int)≤(k:Int):=by omega
  by_cases hlk:k<t.s.wo.length
  ·obtain⟨x,hx⟩:=At.mk hlk
   have hk1:(k:Int)<(t.s.wo.length:Int):=by omega
   obtain⟨g,rfl⟩:=oK.addr rfl (by omega)
   obtain⟨ds,hds,hbg,hgn,hgl,hcr,hfz⟩:=oK.as9 hx
   have hxl:=hl7 x hx.mem
   obtain⟨vk,rfl,hvk⟩:∃vk,ds=[vk]∧Sl Hc vk x:=hds
   have hck:=hcr 0 _ rfl
   simp only[Enc.sz,Nat.mul_one,fh2]at hck
   have hone:=hvk.form
   obtain⟨ak,cck,rfl,_,_⟩:=hone
   obtain⟨HB,hwB,lB,hBB,hBo⟩:=cK.put
   have f5:∀W,j4 HB W→W.cell? ⟨B,5,none⟩=_:=fun W h=>D7 hBB h 5
   simp at f5
   have hgB:g≠B:=fun e=>by
    have:=oK.X7 (k:=g) rfl
    obtain⟨cur,h⟩:=this
    rw[e,cK.at_]at h
    simp only[Option.some.injEq,Obj.cells.injEq]at h
    exact absurd h.2.1 (by decide)
   have hgR:g≠R:=fun e=>by
    have:=oK.X7 (k:=g) rfl
    obtain⟨cur,h⟩:=this
    rw[e,rK.at_]at h
    simp only[Option.some.injEq,Obj.cells.injEq]at h
    exact absurd h.2.1 (by decide)
   go_upto_region 6 with fail
   refine U1 (S:=(fun w'=>j4 HB w')) 6 (by kernel_rfl) (by kernel_rfl) ?_ (fun N9=> ?_)
   ·(try dsimp only)
    (first|assumption|exact j4.drew ‹_›)
   simp only[ff8,fg1,fh6,fh7,fg9,fg8,fg3,ff9,fg2]
   refine hdA 0 ?_
   refine hdA 1 ?_
   refine hdA 2 ?_
   refine hdA 3 ?_
   refine hdA 4 ?_
   (try simp only[Act.put,fe7,ff1,ff2])
   refine hdR 5 [] (fun K hK=> ?_) r9.nil
   (go_simp;go_at_call 96;go_must (refine(aN8 _ x (by omega) Hc _ cK.x.holds.drew hvk).mono ?_);rintro e w5 ⟨v5,HH5,rfl,xx5,oo5⟩;obtain⟨H6,y6,l6,s6,_⟩:=oo5.close xx5;obtain⟨p5,q5,rfl,_,_⟩:=oo5.form;have c6:=cK.drew.ext y6;have r6:=rK.drew.ext y6;have o6:=oK.drew.ext cK.x.holds.drew y6;have lC6:=y6.le cK.x.holds.drew;have k6:j4 HB w5:=j4.below hwB.drew y6.below)
   refine hK.out _ _ ?_ (fun I4=> ?_)
   ·(try dsimp only)
    (first|assumption|exact j4.drew ‹_›)
   clear hK K N9
   (try simp only[Act.put,fe7,ff1,ff2])
   refine G9 (by kernel_rfl) ?_
   simp only[ff5,ff6]
   obtain⟨ds6,ev0,eU4,dS7,eU5,ev1,eU6⟩:=o6.as9 hx
   obtain⟨vk6,rfl,eU7⟩:∃vk,ds6=[vk]∧Sl H6 vk x:=ev0
   have ev2:=ev1 0 _ rfl
   simp only[Enc.sz,Nat.mul_one,fh2]at ev2
   have o7:=o6.aV3 (u:= .slice p5 x.length q5) (y:=x) hx (j:=0) (by decide) (fun ds hd=>by obtain⟨v',e',_⟩:∃vk,ds=[vk]∧Sl H6 vk x:=hd;subst e';exact⟨_,rfl,s6⟩)
   rw[dR9 hx]at o7
   simp only[Enc.sz,Nat.mul_one,fh2]at o7
   have c7:=c6.off (a:=⟨g,k,none⟩) hbg dS7 hgB (.slice p5 x.length q5)
   have r7:=r6.off (a:=⟨g,k,none⟩) hbg dS7 hgR (.slice p5 x.length q5)
   go_wp2
   go_roundw
   case rel=>exact⟨k+1,H6,by omega,by go_num,hlD.trans lC6,c7,r7,o7⟩
   case measure=>simp[intOf];omega
  ·have hke:k=t.s.wo.length:=by omega
   have hk1:¬(k:Int)<(t.s.wo.length:Int):=by omega
   have d0:=cK.cell 0
   have d1:=cK.cell 1
   have d2:=cK.cell 2
   have d3:=cK.cell 3
   have d4:=cK.cell 4
   have d5:=cK.cell 5
   have d6:=cK.cell 6
   have d7:=cK.cell 7
   simp at d0 d1 d2 d3 d4 d5 d6 d7
   have e0:=rK.cell 0
   have e1:=rK.cell 1
   have e2:=rK.cell 2
   have e3:=rK.cell 3
   have e4:=rK.cell 4
   have e5:=rK.cell 5
   have e6:=rK.cell 6
   have e7:=rK.cell 7
   have ef:=rK.fz
   simp at e0 e1 e2 e3 e4 e5 e6 e7
   go_wp2_with fail
   have rz:=M9.set (R:=R) (T:=32) ⟨rK.at_⟩ (.slice p3 t.h.ms.length q3) (.slice p7 t.h.bs.length q7) (.slice p11 t.h.ts.length q11) (.int .i64 t.h.ch) (.slice p23 t.s.mo.length q23) (.slice p31 t.s.wo.length q31) (.slice p27 t.s.wa.length q27) (.int .i64 t.s.fr)
   have xz:=Ext.aC3 rK.x rK.ob rK.oH (.slice p3 t.h.ms.length q3) (.slice p7 t.h.bs.length q7) (.slice p11 t.h.ts.length q11) (.int .i64 t.h.ch) (.slice p23 t.s.mo.length q23) (.slice p31 t.s.wo.length q31) (.slice p27 t.s.wa.length q27) (.int .i64 t.s.fr)
   have bl6:(Value.slice p31 t.s.wo.length q31).ownBlock≠some R:=fun e=>by
    obtain⟨cur,h⟩:=oK.X7 e
    rw[rK.at_]at h
    simp only[Option.some.injEq,Obj.cells.injEq]at h
    exact absurd h.2.1 (by decide)
   have oz:=(((((((oK.setCell (a:=⟨R,0,none⟩) bl6 (.slice p3 t.h.ms.length q3)).setCell (a:=⟨R,1,none⟩) bl6 (.slice p7 t.h.bs.length q7)).setCell (a:=⟨R,2,none⟩) bl6 (.slice p11 t.h.ts.length q11)).setCell (a:=⟨R,3,none⟩) bl6 (.int .i64 t.h.ch)).setCell (a:=⟨R,4,none⟩) bl6 (.slice p23 t.s.mo.length q23)).setCell (a:=⟨R,5,none⟩) bl6 (.slice p31 t.s.wo.length q31)).setCell (a:=⟨R,6,none⟩) bl6 (.slice p27 t.s.wa.length q27)).setCell (a:=⟨R,7,none⟩) bl6 (.int .i64 t.s.fr)
   obtain⟨Hz,xz2,lz,sz,_⟩:=oz.close xz
   refine bodyPost_ret (results_cell_row rfl _ _ R 32 _ (0,0) _ rfl rz.at_ Tryz.underlying32 rfl (by kernel_rfl)) rfl ?_
   have lzz:=hlD.trans lz
   exact⟨_,Hz,rfl,xz2,_,_,_,_,_,_,rfl,⟨⟨sm.mono lzz,sb.mono lzz,st.mono lzz,hI⟩,⟨so.mono lzz,sz,sa.mono lzz,hI2⟩⟩⟩
end
section
open Go.RowKit
attribute [local go_sem] j4.drew j4.alloc j4.drewN WB.holds Oper.semAt_some Q9 O1 J7
theorem cQ3 {m:Mld} {n:Int} (h:n<m.us):an5 m n=false:=by unfold an5;rw[decide_eq_false (by omega)];rfl
theorem cQ4 {m:Mld} {n:Int} (hb:m.br=1) (h:m.us<n):an5 m n=false:=by unfold an5;rw[decide_eq_true hb,decide_eq_false (by omega:¬n=m.us)];simp
theorem cQ5 {m:Mld} {n:Int} (h:¬n<m.us) (h2:¬m.us<n):an5 m n=true:=by unfold an5;rw[decide_eq_true (by omega:m.us≤n),decide_eq_true (by omega:n=m.us)];simp
theorem cQ6 {m:Mld} {n:Int} (h:¬n<m.us) (hb:¬m.br=1):an5 m n=true:=by unfold an5;rw[decide_eq_true (by omega:m.us≤n),decide_eq_false hb];rfl
theorem cB6 (vm vo va vx:Value) (s:G5) (x:List Int) (hxl:s.mo.length≤x.length) (H:j5) (w:World) (hw:j4 H w) (hs:Sho H vm vo va s) (hx0:Sl H vx x):
 Calls Tryz.prog 110 #[aq3 vm vo va s,vx] w (I1 w (.bool (aI1 s x))):=by
 obtain⟨am,cm,rfl,_,_⟩:=hs.m.form
 obtain⟨ax,cx,rfl,_,_⟩:=hx0.form
 obtain⟨R,hRe⟩:∃R,R=aI1 s x:=⟨_,rfl⟩
 rw[←hRe]
 have hfin:au6 s x s.mo.length=R:=hRe.symm
 have hfalse:aI1 s x=false→R=false:=fun h=>hRe.trans h
 clear hRe
 replace hfin:=fe6 hfin
 replace hfalse:=fe6 hfalse
 go_enter Tryz.func110,Tryz.ntmps110
 go_upto_region 2 with(refine af8 rfl _ rfl (Ext.refl hw) ?_;intro B w1 H1 hle hx hB hBw;obtain⟨hc0,hc1,hc2,hc3⟩:=V6 hB;clear hB hw;have hw1:=hx.holds)
 have hs1:=hs.mono hle
 have hsm:=hs1.m
 have hx1:=hx0.mono hle
 clear hs hx0
 go_wp2
 go_loopw [10] (fun i wr=>∃k:Nat,k≤s.mo.length∧i= .int .i64 (k:Int)∧Hid (au6 s x k=true)∧Ext w H wr H1) (fun i _=>s.mo.length-(intOf i).toNat)
 case atStart=>exact⟨0,fh3 _,rfl,rfl,hx⟩
 case round=>
  clear hx hw1
  obtain⟨k,hk,rfl,hok,xr⟩:=hrel
  have hwr:=xr.holds
  have hk0:(0:Int)≤(k:Int):=by omega
  by_cases hlk:k<s.mo.length
  ·obtain⟨m,hm⟩:=At.mk hlk
   obtain⟨b,o,c,he,⟨i1,i2,i3⟩,r1,r2,r3⟩:=hsm.mld hm
   cases he
   obtain⟨n,hn⟩:=At.mk (show k<x.length by omega)
   obtain⟨b5,o5,c5,he5,hi5,r5⟩:=hx1.int hn
   cases he5
   have hk1:(k:Int)<(s.mo.length:Int):=by omega
   have hk2:(k:Int)<(x.length:Int):=by omega
   have hag:au6 s x (k+1)=an5 m n:=by rw[cf1,hok.out,be9 hm,hn.getD];rfl
   have hno:an5 m n=false→R=false:=fun h=>hfalse.out (bT1 hlk (by rw[be9 hm,hn.getD];exact h))
   obtain⟨y,ly,hy⟩:=xr.newF #[.int .i64 m.pg,.int .i64 m.us,.int .i64 m.br] 96
   have hy1:∀W,j4 (H1.put wr.heap.size (.cells #[.int .i64 m.pg,.int .i64 m.us,.int .i64 m.br] 96 (0,0))) W→W.cell? ⟨wr.heap.size,1,none⟩=some (.int .i64 m.us):=fun W hW=>D7 hy hW 1
   have hy2:∀W,j4 (H1.put wr.heap.size (.cells #[.int .i64 m.pg,.int .i64 m.us,.int .i64 m.br] 96 (0,0))) W→W.cell? ⟨wr.heap.size,2,none⟩=some (.int .i64 m.br):=fun W hW=>D7 hy hW 2
   go_upto_region 4 with fail
   generalize H1.put wr.heap.size (.cells #[.int .i64 m.pg,.int .i64 m.us,.int .i64 m.br] 96 (0,0))=H2 at*
   generalize wr.alloc (.cells #[.int .i64 m.pg,.int .i64 m.us,.int .i64 m.br] 96)=wy at*
   generalize wr.heap.size=Y at*
   have hwy:=y.holds
   have q5:=lift ly r5
   clear r5 r1 r2 r3 hwr i1 i2 i3
   by_cases g1:n<m.us
   ·have hR:=hno (cQ3 g1)
    subst hR
    clear hno hag hok hfin hfalse
    refine E8 H2 (by kernel_rfl) (by kernel_rfl) hwy (fun hne=> ?_)
    repeat go_big_quiet_step((first|fail))
    refine wpQuiet_nil ?_
    rintro⟨w2,hw2,hb2⟩
    clear hne
    go_wp2
    go_ret
    exact⟨rfl,y.below.trans (hb2.mono y.below.size)⟩
   ·by_cases g2:m.br=1
    ·have hb:(m.br==1)=true:=by rw[beq_iff_eq];exact g2
     by_cases g3:m.us<n
     ·have hR:=hno (cQ4 g2 g3)
      subst hR
      clear hno hag hok hfin hfalse g2
      refine E8 H2 (by kernel_rfl) (by kernel_rfl) hwy (fun hne=> ?_)
      repeat go_big_quiet_step((first|fail))
      refine wpQuiet_nil ?_
      rintro⟨w2,hw2,hb2⟩
      clear hne
      go_wp2
      go_ret
      exact⟨rfl,y.below.trans (hb2.mono y.below.size)⟩
     ·have hR:=hag.trans (cQ5 g1 g3)
      replace hR:=fe6 hR
      clear hno hag hok g2
      refine E8 H2 (by kernel_rfl) (by kernel_rfl) hwy (fun hne=> ?_)
      repeat go_big_quiet_step((first|fail))
      refine wpQuiet_nil ?_
      rintro⟨w2,hw2,hb2⟩
      clear hne
      have x2:=(y.step (hb2.mono y.below.size) hw2).back xr ly
      go_wp2
      go_roundw
      case rel=>exact⟨k+1,hlk,by go_num,hR,x2⟩
      case measure=>simp[intOf];omega
    ·have hb:(m.br==1)=false:=by rw[beq_eq_false_iff_ne];exact g2
     have hR:=hag.trans (cQ6 g1 g2)
     replace hR:=fe6 hR
     clear hno hag hok g2
     refine E8 H2 (by kernel_rfl) (by kernel_rfl) hwy (fun hne=> ?_)
     repeat go_big_quiet_step((first|fail))
     refine wpQuiet_nil ?_
     rintro⟨w2,hw2,hb2⟩
     clear hne
     have x2:=(y.step (hb2.mono y.below.size) hw2).back xr ly
     go_wp2
     go_roundw
     case rel=>exact⟨k+1,hlk,by go_num,hR,x2⟩
     case measure=>simp[intOf];omega
  ·have hte:k=s.mo.length:=by omega
   have hk1:¬(k:Int)<(s.mo.length:Int):=by omega
   have hR:=hok.out
   rw[hte,hfin.out]at hR
   subst hR
   clear hte hok hfin hfalse
   go_wp2_with fail
   go_ret
   exact⟨rfl,xr.below⟩
end
section
open Go.RowKit
attribute [local go_sem] j4.drew j4.alloc j4.drewN WB.holds Oper.semAt_some Q9 O1 J7
theorem cr7 (s:G5) {m n:Nat} (h:m≤n):am1 s m<+:am1 s n:=by
 induction h with
 |refl=>exact List.prefix_refl _
 |step _ ih=>
  refine ih.trans ?_
  rw[bo5]
  split
  ·exact List.prefix_append _ _
  ·exact List.prefix_refl _
def dt3 (s:G5) (H:j5) (k:Nat) (args:Array Value):Prop:=∃v,args= #[.int .i64 (k:Int),v]∧Sl H v (wld s k)
theorem dt4 (vm vo va:Value) (s:G5) (v:Y0 s) (B:Nat) (H:j5) (w:World) (hw:j4 H w) (hs:Sho H vm vo va s) (hB:H B=some (.cells (aq3 vm vo va s).cells 30 (0,0))):
 Iter Tryz.prog 109 #[.pointer (some ⟨B,0,none⟩)] (dt3 s) (F4 s) w H:=by
 obtain⟨ao,co,rfl,ho1,ho2⟩:=hs.o.form
 intro l J Jx W HW hx hJ hJx hY h0
 have ac2:=hx.le hw
 have hW:=hx.holds
 obtain⟨hc0,hc1,hc2,hc3⟩:=V6 hB
 have ev3:=lift ac2 hc0
 have dp9:=lift ac2 hc1
 have ev4:=lift ac2 hc2
 have ev5:=lift ac2 hc3
 have hsW:=hs.mono ac2
 have hfin:am1 s s.wo.length=F4 s:=rfl
 replace hfin:=fe6 hfin
 refine Calls.mono (R:=bA4 HW (F4 s) J Jx) (Calls.aw5 (r:=none) (n:=3) ?_) (fun _ _ h=>h)
 refine callsIn_of_wp Tryz.func109 rfl trivial ?_ rfl
 simp only[Tryz.ntmps109,List.size_toArray,ff8,fg1,fh6,fh7,fg9,fg8,fg3,List.append_toArray,ff9,fg2]
 gi_wp2
 gi_loopw [3,4,8] (fun _ _ i wr=>∃(k:Nat) (Hc:j5),k≤s.wo.length∧i= .int .i64 (k:Int)∧j4 Hc wr∧D8 HW Hc∧W.heap.size≤wr.heap.size∧J Hc (am1 s k) wr) (fun _ _ i _=>s.wo.length-(intOf i).toNat)
 case atStart=>exact⟨0,HW,fh3 _,rfl,hW,D8.refl _,fh0 _,h0⟩
 case round=>
  clear h0
  obtain⟨k,Hc,hk,rfl,hwc,K5,hsz,hJk⟩:=hrel
  have hk0:(0:Int)≤(k:Int):=by omega
  by_cases hlk:k<s.wo.length
  ·obtain⟨x,hxk⟩:=At.mk hlk
   obtain⟨b,o,cc,u,he,hu,r1⟩:=(hsW.mono K5).o.list hxk
   cases he
   have hu0:=hu
   obtain⟨au,cu,rfl,_,_⟩:=hu0.form
   have hk1:(k:Int)<(s.wo.length:Int):=by omega
   have d0:=lift K5 ev3
   have d1:=lift K5 dp9
   have d2:=lift K5 ev4
   have d3:=lift K5 ev5
   have hxl:s.mo.length≤x.length:=by rw[v.cL5 hxk];exact fh0 _
   have hwx:wld s k=x:=ck8 hxk
   have hag:=cB6 _ _ _ _ s x hxl Hc wr hwc (hsW.mono K5) hu
   have hsucc:=bo5 s k
   rw[hwx]at hsucc
   have hpre:=cr7 s (show k+1≤s.wo.length from hlk)
   rw[hfin.out]at hpre
   cases g:aI1 s x
   ·rw[g]at hag
    rw[if_neg (by rw[g];decide)]at hsucc
    replace hag:=fe6 hag
    replace hsucc:=fe6 hsucc
    clear g hwx hpre hxl hu
    gi_wp2_with (gi_at_call 110;refine(Calls.wide hag.out).mono ?_;rintro e w2 ⟨rfl,hb2⟩;have hJ2:=hJ _ _ _ _ _ hJk hwc (Q6.ext hwc hb2 hsz);have hw2:=hwc.below hb2;have hs2:=fh1 hsz hb2.size)
    go_roundw
    case rel=>exact⟨k+1,Hc,hlk,by go_num,hw2,K5,hs2,by rw[hsucc.out];exact hJ2⟩
    case measure=>simp[intOf];omega
   ·rw[g]at hag
    rw[if_pos g]at hsucc
    rw[hsucc]at hpre
    replace hag:=fe6 hag
    replace hsucc:=fe6 hsucc
    replace hpre:=fe6 hpre
    have cQ7:dt3 s Hc k #[.int .i64 (k:Int),.slice au x.length cu]:=⟨_,rfl,by rw[hwx];exact hu⟩
    replace cQ7:=fe6 cQ7
    clear g hwx hxl hu
    gi_wp2_with (gi_at_call 110;refine(Calls.wide hag.out).mono ?_;rintro e w2 ⟨rfl,hb2⟩;have hJ2:=hJ _ _ _ _ _ hJk hwc (Q6.ext hwc hb2 hsz);have hw2:=hwc.below hb2;have hs2:=fh1 hsz hb2.size;obtain⟨fn,tmps,assign,body,hy,hR⟩:=hY Hc (am1 s k) k w2 #[.int .i64 (k:Int),.slice au x.length cu] 2 hw2 K5 hJ2 cQ7.out hpre.out)
    refine hR.mono ?_
    clear hR hy
    rintro e W3 ⟨hW3,hz3,(⟨rfl,hJ3⟩|⟨rfl,hJx3⟩)⟩
    ·gi_wp2
     go_roundw
     case rel=>exact⟨k+1,Hc,hlk,by go_num,hW3,K5,hz3,by rw[hsucc.out];exact hJ3⟩
     case measure=>simp[intOf];omega
    ·gi_wp2
     refine bodyPost_ret (results_none rfl _ _ _) rfl ?_
     exact⟨⟨_,rfl⟩,Hc,hW3,K5,.inr ⟨_,hpre.out,hJx3⟩⟩
  ·have hte:k=s.wo.length:=by omega
   have hk1:¬(k:Int)<(s.wo.length:Int):=by omega
   rw[hte,hfin.out]at hJk
   rw[hte]at hk1
   clear hte
   gi_wp2
   go_end0
   exact⟨⟨_,rfl⟩,Hc,hwc,K5,.inl hJk⟩
theorem cr8 (vm vo va:Value) (s:G5) (v:Y0 s) (H:j5) (w:World) (hw:j4 H w) (hs:Sho H vm vo va s):
 Calls Tryz.prog 70 #[aq3 vm vo va s] w (ch5 109 (dt3 s) (F4 s) w H):=by
 have hmf:∀(fn:Fn) (first cap:Array Value) (w:World),(Instr.makeFunc fn first cap).run Tryz.prog w= .ok (.func fn first cap) w:=fun _ _ _ _=>rfl
 go_enter Tryz.func70,Tryz.ntmps70
 go_wp2_with(first|(refine af8 rfl _ rfl (Ext.refl hw) ?_;intro B w1 H1 hle hx hB hBw;have hBH:=fe6 hB;clear hB hw;have hw1:=hx.holds))
 go_ret
 exact⟨_,H1,rfl,hx,dt4 _ _ _ s v B H1 w1 hw1 (hs.mono hle) hBH.out⟩
end
section
open Go.RowKit
structure Rec where
 ln:Int
 en:Option F7
 deriving DecidableEq,Inhabited
def RdP (H:j5) (p:Value):Option F7→Prop
 |none=>p= .pointer none
 |some x=>∃E,p= .pointer (some ⟨E,0,none⟩)∧bv5 H E x
theorem RdP.mono {H H':j5} (k:D8 H H') {p:Value}:∀{o:Option F7},RdP H p o→RdP H' p o
 |none,h=>h
 |some _,⟨E,e,h⟩=>⟨E,e,h.mono k⟩
theorem RdP.one {H:j5} {p:Value}:∀{o:Option F7},RdP H p o→p.oneCell'=true
 |none,h=>by rw[show p=_ from h];rfl
 |some _,⟨E,e,h⟩=>by rw[e];rfl
instance ef8:Enc Rec where
 sz:=2
 M4:=16
 rep:=fun H r cs=>∃p,cs=[.int .i64 r.ln,p]∧K8 r.ln∧RdP H p r.en
 len:=fun⟨p,e,_⟩=>by rw[e];rfl
 mono:=fun k ⟨p,e,h1,h2⟩=>⟨p,e,h1,h2.mono k⟩
 one:=fun⟨p,e,h1,h2⟩ u hu=>by
  rw[e]at hu;simp at hu
  rcases hu with rfl|rfl
  ·rfl
  ·exact h2.one
theorem ev6:af2 Tryz.prog 135 142 Rec:= .mk' (.agg #[.int .i64 0,.pointer none]) Tryz.underlying135 (by kernel_rfl) rfl (by decide)
def ac9 (t:D5) (r:Rec):D5 × Bool:=match r.en with
 |some x=>changed t x.word x.nums
 |none=>(t,false)
def U4 (t:D5):List Rec→List (Rec × Bool)
 |[]=>[]
 |r::l=>(r,(ac9 t r).2)::U4 (ac9 t r).1 l
def U8 (t:D5):List Rec→D5
 |[]=>t
 |r::l=>U8 (ac9 t r).1 l
def ahead (recs:List Rec) (line:Int):List Rec:=recs.takeWhile fun r=>decide (r.ln<line)
theorem cc5 (t:D5) (l m:List Rec):U8 t (l++m)=U8 (U8 t l) m:=by
 induction l generalizing t with
 |nil=>rfl
 |cons r l ih=>exact ih _
theorem bv8 (t:D5) (l m:List Rec):U4 t (l++m)=U4 t l++U4 (U8 t l) m:=by
 induction l generalizing t with
 |nil=>rfl
 |cons r l ih=>show _::U4 _ (l++m)=_;rw[ih];rfl
theorem bv9 (t:D5) (l:List Rec):(U4 t l).length=l.length:=by
 induction l generalizing t with
 |nil=>rfl
 |cons r l ih=>show(_::U4 _ l).length=_;rw[ff8,ih];rfl
theorem bF2 {t:D5} (v:F6 t=true) (r:Rec):F6 (ac9 t r).1=true:=by
 unfold ac9
 split
 ·exact aG4 v _ _
 ·exact v
theorem aF3 {t:D5} (v:F6 t=true) (l:List Rec):F6 (U8 t l)=true:=by
 induction l generalizing t with
 |nil=>exact v
 |cons r l ih=>exact ih (bF2 v r)
theorem cQ8 (t:D5) (l:List Rec) (r:Rec):U8 t (l++[r])=(ac9 (U8 t l) r).1:=by rw[cc5];rfl
theorem cQ9 (t:D5) (l:List Rec) (r:Rec):U4 t (l++[r])=U4 t l++[(r,(ac9 (U8 t l) r).2)]:=by rw[bv8];rfl
theorem cS0 {t:D5} {r:Rec} (h:r.en=none):ac9 t r=(t,false):=by unfold ac9;rw[h]
theorem cS1 {t:D5} {r:Rec} {x:F7} (h:r.en=some x):ac9 t r=changed t x.word x.nums:=by unfold ac9;rw[h]
theorem dt5 {recs:List Rec} {line:Int} {k:Nat} (h:k<(ahead recs line).length):∃r,At recs k r∧At (ahead recs line) k r∧r.ln<line:=by
 obtain⟨r,hr⟩:=At.mk h
 have hp:=List.takeWhile_prefix (l:=recs) (fun r=>decide (r.ln<line))
 refine⟨r, ?_,hr, ?_⟩
 ·obtain⟨t,ht⟩:=hp
  unfold At at*
  unfold ahead at h hr
  rw[←ht,List.getElem?_append_left h];exact hr
 ·have hall:∀l:List Rec,∀x∈l.takeWhile (fun r=>decide (r.ln<line)),x.ln<line:=fun l=>by
   induction l with
   |nil=>intro x hx;cases hx
   |cons y l ih=>
    intro x hx
    rw[List.takeWhile_cons]at hx
    split at hx
    ·rename_i hy
     rcases List.mem_cons.1 hx with rfl|hx
     ·exact of_decide_eq_true hy
     ·exact ih x hx
    ·cases hx
  exact hall recs r hr.mem
theorem cS3 {recs:List Rec} {line:Int} {r:Rec} (h:At recs (ahead recs line).length r):¬r.ln<line:=by
 unfold ahead at h
 induction recs with
 |nil=>have:=h.lt;simp at this
 |cons x l ih=>
  rw[List.takeWhile_cons]at h
  split at h
  ·rw[ff8]at h
   exact ih (by simpa [At]using h)
  ·rename_i hx
   have:x=r:=by simpa [At]using h
   subst this
   simpa using hx
theorem dt6 (recs:List Rec) (line:Int):(ahead recs line).length≤recs.length:=(List.takeWhile_prefix _).length_le
theorem Ext.side {w w2:World} {G G2 Hc:j5} (hx:Ext w G w2 G2) (hc:j4 Hc w) (hle:D8 G Hc):∃H2,Ext w Hc w2 H2∧D8 G2 H2∧(∀b,b<w.heap.size→H2 b=Hc b)∧∀b,w.heap.size≤b→H2 b=G2 b:=by
 refine⟨fun b=>if b<w.heap.size then Hc b else G2 b,⟨hx.below,⟨fun b o e=> ?_⟩,fun b hb=>if_pos hb⟩,fun b o e=> ?_,fun b hb=>if_pos hb,fun b hb=>if_neg (by omega)⟩
 ·by_cases hb:b<w.heap.size
  ·rw[if_pos hb]at e;exact(hx.below.block b hb).trans (hc.at_ _ _ e)
  ·rw[if_neg hb]at e;exact hx.holds.at_ _ _ e
 ·show(if b<w.heap.size then Hc b else G2 b)=some o
  by_cases hb:b<w.heap.size
  ·rw[if_pos hb];rw[hx.same b hb]at e;exact hle _ _ e
  ·rw[if_neg hb];exact e
theorem Q6.bN5 {n0:Nat} {w w2:World} {Hc H2:j5} (hx:Ext w Hc w2 H2) (hn:n0≤w.heap.size):Q6 n0 w Hc w2 H2:=
 ⟨hx.below.mono hn,fun b _ _ _ e hb=>⟨(hx.below.block b (Array.getElem?_eq_some_iff.1 e).1).trans e,(hx.same b (Array.getElem?_eq_some_iff.1 e).1).trans hb⟩,fun b hb=>hx.same b (by omega),hx.holds⟩
end
section
open Go.RowKit
attribute [local go_sem] j4.drew j4.alloc j4.drewN WB.holds Oper.semAt_some Q9 O1 J7
theorem df0 (t:D5) (l:List Rec) (k:Nat):U4 t (l.take k)<+:U4 t l:=by
 have h:=bv8 t (l.take k) (l.drop k)
 rw[List.take_append_drop]at h
 rw[h]
 exact List.prefix_append _ _
def bl7 (HP He:j5) (v:Value) (recs:List Rec):Prop:=
 (∃a c,v= .slice a recs.length c)∧∀k r,At recs k r→∃b o c p,v= .slice (some ⟨b,o,none⟩) recs.length c∧K8 r.ln∧RdP He p r.en∧(∀w,j4 HP w→w.cell? ⟨b,o+k*2,none⟩=some (.int .i64 r.ln))∧(∀w,j4 HP w→w.cell? ⟨b,o+k*2+1,none⟩=some p)
def dS8 (He:j5) (_:j5) (x:Rec × Bool) (args:Array Value):Prop:=∃p,args= #[.agg #[.int .i64 x.1.ln,p],.bool x.2]∧K8 x.1.ln∧RdP He p x.1.en
theorem bF3 {A B:j5} {TB:Nat} {o:Obj} (h:∀b ob,A b=some ob→b≠TB∧B b=some ob):D8 A (B.put TB o):=fun b ob e=>by
 rw[j5.F3 _ _ (h b ob e).1]
 exact(h b ob e).2
theorem Q6.ev7 {n0 TB:Nat} {w:World} {Hc:j5} {T:TypeId} {a b c d e f g h:Value} (hw:j4 Hc w) (hn:n0≤TB) (hT:Hc TB=some (.cells #[a,b,c,d,e,f,g,h] T (0,0))) (a' b' c' d' e' f' g' h':Value):
 Q6 n0 w Hc ((((((((w.setCell ⟨TB,0,none⟩ a').setCell ⟨TB,1,none⟩ b').setCell ⟨TB,2,none⟩ c').setCell ⟨TB,3,none⟩ d').setCell ⟨TB,4,none⟩ e').setCell ⟨TB,5,none⟩ f').setCell ⟨TB,6,none⟩ g').setCell ⟨TB,7,none⟩ h')
  (Hc.put TB (.cells #[a',b',c',d',e',f',g',h'] T (0,0))):=by
 have r:M9 TB T w a b c d e f g h:=⟨hw.at_ _ _ hT⟩
 have hoth:∀(w:World) (i:Nat) (v:Value) (k:Nat),k≠TB→(w.setCell ⟨TB,i,none⟩ v).heap[k]? =w.heap[k]? :=fun w i v k hk=>heap_setCell_other w ⟨TB,i,none⟩ k v hk
 have hbel:∀(w w':World) (i:Nat) (v:Value),Below n0 w w'→Below n0 w (w'.setCell ⟨TB,i,none⟩ v):=fun w w' i v hb=>hb.setCell hn v
 refine Q6.at hw hn (.inl (by rw[hT];simp)) ?_ (fun k _ hk=> ?_) (r.set a' b' c' d' e' f' g' h').at_
 ·exact hbel _ _ _ _ (hbel _ _ _ _ (hbel _ _ _ _ (hbel _ _ _ _ (hbel _ _ _ _ (hbel _ _ _ _ (hbel _ _ _ _ (hbel _ _ _ _ (Below.refl _ _))))))))
 ·rw[hoth _ _ _ _ hk,hoth _ _ _ _ hk,hoth _ _ _ _ hk,hoth _ _ _ _ hk,hoth _ _ _ _ hk,hoth _ _ _ _ hk,hoth _ _ _ _ hk,hoth _ _ _ _ hk]
theorem df1 (gm gb gt gu go' ga rv:Value) (g:D5) (recs:List Rec) (line:Int) (v:F6 g=true) (D C1 C2:Nat) (He HP:j5) (w:World) (hw:j4 HP w) (hle0:D8 He HP)
 (hT:Twn He gm gb gt gu go' ga g) (hD:HP D=some (.cells #[gm,gb,gt,.int .i64 g.h.ch,gu,go',ga,.int .i64 g.s.fr,rv] 137 (0,0))) (hR:bl7 HP He rv recs) (hl:recs.length≤1000000)
 (hC1:HP C1=some (.cells #[.pointer (some ⟨D,0,none⟩)] 181 (0,0))) (hC2:HP C2=some (.cells #[.int .i64 line] 3 (0,0))):
 Iter Tryz.prog 126 #[.pointer (some ⟨C1,0,none⟩),.pointer (some ⟨C2,0,none⟩)] (dS8 He) (U4 g (ahead recs line)) w HP:=by
 obtain⟨⟨ra,rc,rfl⟩,hrec⟩:=hR
 obtain⟨a0,c0,rfl,_,_⟩:=hT.h.m.form
 obtain⟨a1,c1,rfl,_,_⟩:=hT.h.b.form
 obtain⟨a2,c2,rfl,_,_⟩:=hT.h.t.form
 obtain⟨a3,c3,rfl,_,_⟩:=hT.s.m.form
 obtain⟨a4,c4,rfl,_,_⟩:=hT.s.o.form
 obtain⟨a5,c5,rfl,_,_⟩:=hT.s.a.form
 intro l J Jx W HW hx hJ hJx hY h0
 have ac2:=hx.le hw
 have hW:=hx.holds
 have f0:∀W',j4 HW W'→W'.cell? ⟨D,0,none⟩=_:=fun W' h=>D7 (ac2 _ _ hD) h 0
 have f1:∀W',j4 HW W'→W'.cell? ⟨D,1,none⟩=_:=fun W' h=>D7 (ac2 _ _ hD) h 1
 have f2:∀W',j4 HW W'→W'.cell? ⟨D,2,none⟩=_:=fun W' h=>D7 (ac2 _ _ hD) h 2
 have f3:∀W',j4 HW W'→W'.cell? ⟨D,3,none⟩=_:=fun W' h=>D7 (ac2 _ _ hD) h 3
 have f4:∀W',j4 HW W'→W'.cell? ⟨D,4,none⟩=_:=fun W' h=>D7 (ac2 _ _ hD) h 4
 have f5:∀W',j4 HW W'→W'.cell? ⟨D,5,none⟩=_:=fun W' h=>D7 (ac2 _ _ hD) h 5
 have f6:∀W',j4 HW W'→W'.cell? ⟨D,6,none⟩=_:=fun W' h=>D7 (ac2 _ _ hD) h 6
 have f7:∀W',j4 HW W'→W'.cell? ⟨D,7,none⟩=_:=fun W' h=>D7 (ac2 _ _ hD) h 7
 have f8:∀W',j4 HW W'→W'.cell? ⟨D,8,none⟩=_:=fun W' h=>D7 (ac2 _ _ hD) h 8
 have e1:∀W',j4 HW W'→W'.cell? ⟨C1,0,none⟩=_:=fun W' h=>D7 (ac2 _ _ hC1) h 0
 have e2:∀W',j4 HW W'→W'.cell? ⟨C2,0,none⟩=_:=fun W' h=>D7 (ac2 _ _ hC2) h 0
 simp at f0 f1 f2 f3 f4 f5 f6 f7 f8 e1 e2
 have hrc:∀k r,At recs k r→∃b o c p,Value.slice ra recs.length rc= .slice (some ⟨b,o,none⟩) recs.length c∧K8 r.ln∧RdP He p r.en∧(∀w,j4 HW w→w.cell? ⟨b,o+k*2,none⟩=some (.int .i64 r.ln))∧(∀w,j4 HW w→w.cell? ⟨b,o+k*2+1,none⟩=some p):=fun k r hr=>by
  obtain⟨b,o,c,p,e,h1,h2,h3,h4⟩:=hrec k r hr
  exact⟨b,o,c,p,e,h1,h2,lift ac2 h3,lift ac2 h4⟩
 replace hrc:=fe6 hrc
 clear hrec hD hC1 hC2
 refine Calls.mono (R:=bA4 HW (U4 g (ahead recs line)) J Jx) (Calls.aw5 (r:=none) (n:=3) ?_) (fun _ _ h=>h)
 refine callsIn_of_wp Tryz.func126 rfl trivial ?_ rfl
 simp only[Tryz.ntmps126,List.size_toArray,ff8,fg1,fh6,fh7,fg9,fg8,fg3,List.append_toArray,ff9,fg2]
 obtain⟨x1,l1,hTB⟩:=(Ext.refl hW).newF #[.slice a0 g.h.ms.length c0,.slice a1 g.h.bs.length c1,.slice a2 g.h.ts.length c2,.int .i64 g.h.ch,.slice a3 g.s.mo.length c3,.slice a4 g.s.wo.length c4,.slice a5 g.s.wa.length c5,.int .i64 g.s.fr] 32
 have hJ1:=hJ _ _ _ _ _ h0 hW (Q6.bN5 x1 (fh0 _))
 gi_upto_region 1 with fail
 generalize hH1:HW.put W.heap.size (.cells #[.slice a0 g.h.ms.length c0,.slice a1 g.h.bs.length c1,.slice a2 g.h.ts.length c2,.int .i64 g.h.ch,.slice a3 g.s.mo.length c3,.slice a4 g.s.wo.length c4,.slice a5 g.s.wa.length c5,.int .i64 g.s.fr] 32 (0,0))=H1 at*
 clear hH1
 generalize W.alloc (.cells #[.slice a0 g.h.ms.length c0,.slice a1 g.h.bs.length c1,.slice a2 g.h.ts.length c2,.int .i64 g.h.ch,.slice a3 g.s.mo.length c3,.slice a4 g.s.wo.length c4,.slice a5 g.s.wa.length c5,.int .i64 g.s.fr] 32)=W1 at*
 have hW1:=x1.holds
 have hWs:=x1.below.size
 have hEn:He W.heap.size=none:=by
  cases hh:He W.heap.size with
  |none=>rfl
  |some o=>have:=hW.lt (ac2 _ _ (hle0 _ _ hh));omega
 have ev8:=lift l1 f8
 have ev9:=lift l1 e1
 have hfin:∀k,(ahead recs line).length=k→U4 g ((ahead recs line).take k)=U4 g (ahead recs line):=fun k h=>by rw[←h,List.take_length]
 replace hfin:=fe6 hfin
 have eU8:=dt6 recs line
 gi_wp2
 gi_loopw [6,7,17] (fun _ _ i wr=>∃(k:Nat) (Hc G:j5) (qm qb qt qu qo qa:Value),k≤(ahead recs line).length∧i= .int .i64 (k:Int)∧j4 Hc wr∧D8 HW Hc∧W.heap.size≤wr.heap.size∧J Hc (U4 g ((ahead recs line).take k)) wr∧
  Hc W.heap.size=some (.cells #[qm,qb,qt,.int .i64 (U8 g ((ahead recs line).take k)).h.ch,qu,qo,qa,.int .i64 (U8 g ((ahead recs line).take k)).s.fr] 32 (0,0))∧D8 He G∧D8 G Hc∧G W.heap.size=none∧Twn G qm qb qt qu qo qa (U8 g ((ahead recs line).take k))) (fun _ _ i _=>recs.length-(intOf i).toNat)
 case atStart=>exact⟨0,H1,He,_,_,_,_,_,_,fh3 _,rfl,hW1,l1,hWs,hJ1,hTB,D8.refl _,(hle0.trans ac2).trans l1,hEn,hT⟩
 case round=>
  clear hJ1 hTB hW1 x1 ev8 ev9 hWs h0 l1
  obtain⟨k,Hc,G,qm,qb,qt,qu,qo,qa,hk,rfl,hwc,K5,hsz,hJk,hTc,hEG,hGc,hGn,hTw⟩:=hrel
  have hk0:(0:Int)≤(k:Int):=by omega
  have d2:=lift K5 e2
  by_cases hlk:k<recs.length
  ·obtain⟨r,hrk⟩:=At.mk hlk
   obtain⟨b,o,cc,p,he,hli,hrd,r1,r2⟩:=hrc.out k r hrk
   cases he
   have hk1:(k:Int)<(recs.length:Int):=by omega
   replace r1:=lift K5 r1
   replace r2:=lift K5 r2
   have hp1:=hrd.one
   by_cases hka:k<(ahead recs line).length
   ·obtain⟨r',hr1,hr2,hlt⟩:=dt5 hka
    obtain rfl:r=r':=hrk.uniq hr1
    have hgt:¬line≤r.ln:=by omega
    have hgo:U4 g ((ahead recs line).take (k+1))=U4 g ((ahead recs line).take k)++[(r,(ac9 (U8 g ((ahead recs line).take k)) r).2)]:=by rw[hr2.take,cQ9]
    have hto:U8 g ((ahead recs line).take (k+1))=(ac9 (U8 g ((ahead recs line).take k)) r).1:=by rw[hr2.take,cQ8]
    have hpre:=df0 g (ahead recs line) (k+1)
    have vt:=aF3 v ((ahead recs line).take k)
    rw[hgo]at hpre
    replace hgo:=fe6 hgo
    replace hto:=fe6 hto
    generalize U8 g ((ahead recs line).take k)=t at*
    generalize U4 g ((ahead recs line).take k)=pre at*
    replace hpre:=fe6 hpre
    obtain⟨x2,l2,hRV⟩:=(Ext.refl hwc).newF #[.int .i64 r.ln,p] 142
    have hJ2:=hJ _ _ _ _ _ hJk hwc (Q6.bN5 x2 hsz)
    have hwx:=x2.holds
    have aX1:=l2 _ _ hTc
    have hsz2:=fh1 hsz x2.below.size
    have hRT:wr.heap.size≠W.heap.size:=by
     intro e
     have:=hwc.lt hTc
     omega
    have cS4:=hGc.trans l2
    replace l2:=fe6 l2
    replace hJ2:=fe6 hJ2
    replace hrd:=fe6 hrd
    replace hka:=fe6 hka
    clear hr1 hr2 hrk hlt hJk hTc hGc
    cases aX2:r.en with
    |none=>
     rw[aX2]at hrd
     obtain rfl:p= .pointer none:=hrd.out
     have hst:=cS0 (t:=t) aX2
     rw[hst]at hgo hto hpre
     obtain⟨fn,tmps,assign,body,hy,hR⟩:=hY _ pre (r,false) _ #[.agg #[.int .i64 r.ln,.pointer none],.bool false] 2 hwx (K5.trans l2.out) hJ2.out ⟨_,rfl,hli,by rw[aX2];rfl⟩ hpre.out
     clear hst aX2
     gi_wp2
     refine hR.mono ?_
     clear hR hy
     rintro e W3 ⟨hW3,hz3,(⟨rfl,hJ3⟩|⟨rfl,hJx3⟩)⟩
     ·gi_wp2
      go_roundw
      case rel=>exact⟨k+1,_,G,qm,qb,qt,qu,qo,qa,hka.out,by go_num,hW3,K5.trans l2.out,hz3,by rw[hgo.out];exact hJ3,by rw[hto.out];exact aX1,hEG,cS4,hGn,by rw[hto.out];exact hTw⟩
      case measure=>simp[intOf];omega
     ·gi_wp2
      refine bodyPost_ret (results_none rfl _ _ _) rfl ?_
      exact⟨⟨_,rfl⟩,_,hW3,K5.trans l2.out,.inr ⟨_,hpre.out,hJx3⟩⟩
    |some y=>
     rw[aX2]at hrd
     obtain⟨E,rfl,hE⟩:=hrd.out
     have hst:=cS1 (t:=t) aX2
     rw[hst]at hgo hto hpre
     have henc:RdP He (.pointer (some ⟨E,0,none⟩)) r.en:=by rw[aX2];exact⟨E,rfl,hE⟩
     have hon:=fun(W':World) (hW':j4 G W')=>cr6 E y qm qb qt qu qo qa t vt G W' hW' (hE.mono hEG) hTw
     unfold aX0 at hon
     obtain⟨t2,b2,hcb⟩:∃t2 b2,changed t y.word y.nums=(t2,b2):=⟨_,_,rfl⟩
     rw[hcb]at hon hgo hto hpre
     have m0:=D7 aX1 hwx 0
     have m1:=D7 aX1 hwx 1
     have m2:=D7 aX1 hwx 2
     have m3:=D7 aX1 hwx 3
     have m4:=D7 aX1 hwx 4
     have m5:=D7 aX1 hwx 5
     have m6:=D7 aX1 hwx 6
     have m7:=D7 aX1 hwx 7
     simp at m0 m1 m2 m3 m4 m5 m6 m7
     gi_upto_region 4 with fail
     replace d2:=lift l2.out d2
     generalize hH2:Hc.put wr.heap.size (.cells #[.int .i64 r.ln,.pointer (some ⟨E,0,none⟩)] 142 (0,0))=H2 at*
     clear hH2
     generalize wr.alloc (.cells #[.int .i64 r.ln,.pointer (some ⟨E,0,none⟩)] 142)=wa at*
     generalize wr.heap.size=RV at*
     have g0:=D7 hRV hwx 0
     have g1:=D7 hRV hwx 1
     simp at g0 g1
     have dT0:=hwx.lt aX1
     have ew0:=hwx.lt hRV
     have hGw:=hwx.mono cS4
     replace hon:=fe6 (hon wa hGw)
     clear hst aX2 hcb hrd hTw hGw
     gi_wp2_with (gi_at_call 119;go_must (refine(Calls.wide hon.out).mono ?_;rintro e w3 ⟨_,G3,rfl,xg,u,rfl,um,ub,ut,uu,uo,uv,rfl,tw2⟩;obtain⟨p0,n0,rfl,_,_⟩:=tw2.h.m.form;obtain⟨p1,n1,rfl,_,_⟩:=tw2.h.b.form;obtain⟨p2,n2,rfl,_,_⟩:=tw2.h.t.form;obtain⟨p3,n3,rfl,_,_⟩:=tw2.s.m.form;obtain⟨p4,n4,rfl,_,_⟩:=tw2.s.o.form;obtain⟨p5,n5,rfl,_,_⟩:=tw2.s.a.form;obtain⟨H3,x3,l3,hs3,hn3⟩:=xg.side hwx cS4;have hT3:=(hs3 _ dT0).trans aX1;have hR3:=(hs3 _ ew0).trans hRV;have tr:=Q6.ev7 (n0:=W.heap.size) x3.holds (fh0 _) hT3 (.slice p0 t2.h.ms.length n0) (.slice p1 t2.h.bs.length n1) (.slice p2 t2.h.ts.length n2) (.int .i64 t2.h.ch) (.slice p3 t2.s.mo.length n3) (.slice p4 t2.s.wo.length n4) (.slice p5 t2.s.wa.length n5) (.int .i64 t2.s.fr);have hJ3:=hJ _ _ _ _ _ hJ2.out hwx (Q6.bN5 x3 hsz2);have hJ4:=hJ _ _ _ _ _ hJ3 x3.holds tr;have hGT:G3 W.heap.size=none:=(xg.same _ dT0).trans hGn;have le4:=bF3 (A:=HW) (B:=H3) (TB:=W.heap.size) (o:= .cells #[.slice p0 t2.h.ms.length n0,.slice p1 t2.h.bs.length n1,.slice p2 t2.h.ts.length n2,.int .i64 t2.h.ch,.slice p3 t2.s.mo.length n3,.slice p4 t2.s.wo.length n4,.slice p5 t2.s.wa.length n5,.int .i64 t2.s.fr] 32 (0,0)) (fun b ob eb=>⟨fh5 (hW.lt eb),(hs3 b (hwx.lt ((K5.trans l2.out) b ob eb))).trans ((K5.trans l2.out) b ob eb)⟩);have hG4:=bF3 (A:=G3) (B:=H3) (TB:=W.heap.size) (o:= .cells #[.slice p0 t2.h.ms.length n0,.slice p1 t2.h.bs.length n1,.slice p2 t2.h.ts.length n2,.int .i64 t2.h.ch,.slice p3 t2.s.mo.length n3,.slice p4 t2.s.wo.length n4,.slice p5 t2.s.wa.length n5,.int .i64 t2.s.fr] 32 (0,0)) (fun b ob eb=>⟨(fun e=>by rw[e,hGT]at eb;cases eb),l3 b ob eb⟩);have hT4:=j5.G7 H3 W.heap.size (.cells #[.slice p0 t2.h.ms.length n0,.slice p1 t2.h.bs.length n1,.slice p2 t2.h.ts.length n2,.int .i64 t2.h.ch,.slice p3 t2.s.mo.length n3,.slice p4 t2.s.wo.length n4,.slice p5 t2.s.wa.length n5,.int .i64 t2.s.fr] 32 (0,0));have hR4:=(j5.F3 H3 (.cells #[.slice p0 t2.h.ms.length n0,.slice p1 t2.h.bs.length n1,.slice p2 t2.h.ts.length n2,.int .i64 t2.h.ch,.slice p3 t2.s.mo.length n3,.slice p4 t2.s.wo.length n4,.slice p5 t2.s.wa.length n5,.int .i64 t2.s.fr] 32 (0,0)) hRT).trans hR3;obtain⟨z0,z1,z2,z3,z4,z5,z6,z7,zf⟩:=(M9.mk (x3.holds.at_ _ _ hT3)).cells;have j0:=D7 hR4 tr.holds 0;have j1:=D7 hR4 tr.holds 1;simp at j0 j1;replace hs3:=fe6 hs3;replace hn3:=fe6 hn3;obtain⟨fn,tmps,assign,body,hy,hR⟩:=hY _ pre (r,b2) _ #[.agg #[.int .i64 r.ln,.pointer (some ⟨E,0,none⟩)],.bool b2] 2 tr.holds le4 hJ4 ⟨_,rfl,hli,henc⟩ hpre.out))
     refine hR.mono ?_
     clear hR hy j0 j1 z0 z1 z2 z3 z4 z5 z6 z7 zf
     rintro e W3 ⟨hW3,hz3,(⟨rfl,hJ3⟩|⟨rfl,hJx3⟩)⟩
     ·gi_wp2
      go_roundw
      case rel=>exact⟨k+1,_,G3,_,_,_,_,_,_,hka.out,by go_num,hW3,le4,hz3,by rw[hgo.out];exact hJ3,by rw[hto.out];exact hT4,hEG.trans (xg.le (hwx.mono cS4)),hG4,hGT,by rw[hto.out];exact tw2⟩
      case measure=>simp[intOf];omega
     ·gi_wp2
      refine bodyPost_ret (results_none rfl _ _ _) rfl ?_
      exact⟨⟨_,rfl⟩,_,hW3,le4,.inr ⟨_,hpre.out,hJx3⟩⟩
   ·have hke:(ahead recs line).length=k:=by omega
    have hst:=cS3 (line:=line) (by rw[hke];exact hrk)
    have hge:line≤r.ln:=by omega
    rw[hfin.out k hke]at hJk
    obtain⟨x2,l2,hRV⟩:=(Ext.refl hwc).newF #[.int .i64 r.ln,p] 142
    have hJ2:=hJ _ _ _ _ _ hJk hwc (Q6.bN5 x2 hsz)
    have hwx:=x2.holds
    have g0:=D7 hRV hwx 0
    simp at g0
    replace l2:=fe6 l2
    replace hJ2:=fe6 hJ2
    replace hke:=fe6 hke
    replace hrd:=fe6 hrd
    clear hst hTw hTc hJk x2
    cases aX2:r.en with
    |none=>
     rw[aX2]at hrd
     obtain rfl:p= .pointer none:=hrd.out
     gi_wp2
     go_end0
     exact⟨⟨_,rfl⟩,_,hwx,K5.trans l2.out,.inl hJ2.out⟩
    |some y=>
     rw[aX2]at hrd
     obtain⟨E,rfl,_⟩:=hrd.out
     gi_wp2
     go_end0
     exact⟨⟨_,rfl⟩,_,hwx,K5.trans l2.out,.inl hJ2.out⟩
  ·have hke:(ahead recs line).length=k:=by omega
   have hk1:¬(k:Int)<(recs.length:Int):=by omega
   rw[hfin.out k hke]at hJk
   replace hke:=fe6 hke
   clear hTw hTc
   gi_wp2
   go_end0
   exact⟨⟨_,rfl⟩,Hc,hwc,K5,.inl hJk⟩
end
section
open Go.RowKit
attribute [local go_sem] j4.drew j4.alloc j4.drewN WB.holds Oper.semAt_some Q9 O1 J7
structure L8 (He:j5) (base:Nat) (w:World) (D:Nat) (gm gb gt gu go' ga rv:Value) (g:D5) (recs:List Rec):Prop where
 h:j4 He w
 row:w.heap[D]? =some (.cells #[gm,gb,gt,.int .i64 g.h.ch,gu,go',ga,.int .i64 g.s.fr,rv] 137 (0,0))
 nD:He D=none
 t:Twn He gm gb gt gu go' ga g
 own:Own He base w 142 rv recs
 l:recs.length≤1000
theorem L8.put {He:j5} {base:Nat} {w:World} {D:Nat} {gm gb gt gu go' ga rv:Value} {g:D5} {recs:List Rec} (d:L8 He base w D gm gb gt gu go' ga rv g recs):
 ∃HP,j4 HP w∧D8 He HP∧HP D=some (.cells #[gm,gb,gt,.int .i64 g.h.ch,gu,go',ga,.int .i64 g.s.fr,rv] 137 (0,0))∧bl7 HP He rv recs:=by
 obtain⟨cells,⟨hl,ho⟩,hr,hf,hb⟩:=d.own
 have hh:=d.h
 rcases ho with⟨rfl,hn⟩|⟨g0,cap,cur,he,hbg,hg,hnc,hcm,hcs,htake⟩
 ·have h0:recs=[]:=List.eq_nil_of_length_eq_zero hn
  subst h0
  refine⟨He.put D _,hh.put d.row,j5.L9 d.nD _,j5.G7 _ _ _,⟨none,0,rfl⟩,fun k r hk=> ?_⟩
  have:=hk.lt;simp at this
 ·have hgD:g0≠D:=by
   rintro rfl
   rw[d.row]at hg
   simp only[Option.some.injEq,Obj.cells.injEq]at hg
   exact absurd hg.2.1 (by decide)
  have hg0:=hf g0 (by rw[he];rfl)
  have h1:=hh.put hg
  have hn1:(He.put g0 (.cells cur 142 (0,0))) D=none:=by rw[j5.F3 _ _ (Ne.symm hgD)];exact d.nD
  refine⟨(He.put g0 (.cells cur 142 (0,0))).put D _,h1.put d.row,(j5.L9 hg0 _).trans (j5.L9 hn1 _),j5.G7 _ _ _,⟨_,cap,he⟩,fun k r hk=> ?_⟩
  obtain⟨ds,⟨p,hds,hi,hp⟩,hj⟩:=P6.get hr hk
  have hP:((He.put g0 (.cells cur 142 (0,0))).put D (.cells #[gm,gb,gt,.int .i64 g.h.ch,gu,go',ga,.int .i64 g.s.fr,rv] 137 (0,0))) g0=some (.cells cur 142 (0,0)):=by
   rw[j5.F3 _ _ hgD,j5.G7]
  have hcell:∀(j:Nat) (u:Value),ds[j]? =some u→cur[k*2+j]? =some u:=fun j u hu=>by
   have h2:=hj j u hu
   rw[←htake,List.getElem?_take]at h2
   split at h2
   ·simpa [Enc.sz]using h2
   ·cases h2
  refine⟨g0,0,cap,p,he,hi,hp,fun W hW=> ?_,fun W hW=> ?_⟩
  ·rw[Nat.zero_add]
   exact(D7 hP hW _).trans (hcell 0 _ (by rw[hds];rfl))
  ·rw[Nat.zero_add]
   exact(D7 hP hW _).trans (hcell 1 _ (by rw[hds];rfl))
theorem bI5 (gm gb gt gu go' ga rv:Value) (g:D5) (recs:List Rec) (line:Int) (v:F6 g=true) (D:Nat) (He HP:j5) (w:World) (hw:j4 HP w) (hle0:D8 He HP)
 (hT:Twn He gm gb gt gu go' ga g) (hD:HP D=some (.cells #[gm,gb,gt,.int .i64 g.h.ch,gu,go',ga,.int .i64 g.s.fr,rv] 137 (0,0))) (hR:bl7 HP He rv recs) (hl:recs.length≤1000000):
 Calls Tryz.prog 77 #[.pointer (some ⟨D,0,none⟩),.int .i64 line] w (ch5 126 (dS8 He) (U4 g (ahead recs line)) w HP):=by
 have hmf:∀(fn:Fn) (first cap:Array Value) (w:World),(Instr.makeFunc fn first cap).run Tryz.prog w= .ok (.func fn first cap) w:=fun _ _ _ _=>rfl
 go_enter Tryz.func77,Tryz.ntmps77
 go_wp2
 go_ret
 obtain⟨y1,m1,e1⟩:=(Ext.refl hw).newF #[.pointer (some ⟨D,0,none⟩)] 181
 obtain⟨y2,m2,e2⟩:=y1.newF #[.int .i64 line] 3
 have q1:=m2 _ _ e1
 rw[World.size_alloc]at e2
 rw[World.size_alloc]at q1 m2 y2
 refine⟨_,_,rfl,y2, ?_⟩
 refine df1 gm gb gt gu go' ga rv g recs line v D w.heap.size (w.heap.size+1) He _ _ y2.holds (hle0.trans (m1.trans m2)) hT ((m1.trans m2) _ _ hD) ?_ hl q1 e2
 obtain⟨h1,h2⟩:=hR
 refine⟨h1,fun k r hk=> ?_⟩
 obtain⟨b,o,c,p,e,k1,k2,k3,k4⟩:=h2 k r hk
 exact⟨b,o,c,p,e,k1,k2,lift (m1.trans m2) k3,lift (m1.trans m2) k4⟩
end
section
open Go.RowKit
attribute [local go_sem] j4.drew j4.alloc j4.drewN WB.holds Oper.semAt_some Q9 O1 J7
structure aQ6 (s0 n0:Nat) (He Hc K:j5) (W:World):Prop where
 h:j4 K W
 own:∀b o,K b=some o→b<n0∨((∃cs t fr,o= .cells cs t fr)∧Hc b=none)
 le:D8 He K
 same:∀b,b<s0→K b=He b
theorem aQ6.turn {s0 n0 n1:Nat} {He Hc Hc' K:j5} {W W':World} (k:aQ6 s0 n0 He Hc K W) (ht:Q6 n1 W Hc W' Hc') (hn:n0≤n1):aQ6 s0 n0 He Hc' K W':=by
 have key:∀b o,K b=some o→W'.heap[b]? =some o∧(b<n0∨((∃cs t fr,o= .cells cs t fr)∧Hc' b=none)):=fun b o e=>by
  have h1:=k.h.at_ b o e
  rcases k.own b o e with h|⟨⟨cs,t,fr,rfl⟩,h2⟩
  ·exact⟨(ht.below.block b (by omega)).trans h1,.inl h⟩
  ·obtain⟨h3,h4⟩:=ht.keep b cs t fr h1 h2
   exact⟨h3,.inr ⟨⟨cs,t,fr,rfl⟩,h4⟩⟩
 exact⟨⟨fun b o e=>(key b o e).1⟩,fun b o e=>(key b o e).2,k.le,k.same⟩
theorem Sl.aK7 {α:Type} [Enc α] {A B:j5} (hk:∀b cs t fr,A b=some (.cells cs t fr)→B b=some (.cells cs t fr)) (hr:∀(x:α) cs,Enc.rep A x cs→Enc.rep B x cs) {v:Value} {xs:List α} (h:Sl A v xs):Sl B v xs:=by
 have ef9:∀(xs:List α) (cs:List Value),P6 A xs cs→P6 B xs cs:=fun xs=>by
  induction xs with
  |nil=>intro cs h;exact h
  |cons x xs ih=>rintro cs ⟨c1,c2,e,h1,h2⟩;exact⟨c1,c2,e,hr x c1 h1,ih c2 h2⟩
 obtain⟨a,c,h1,h2,h3,h4,h5⟩:=h
 refine⟨a,c,h1,h2,h3,h4, ?_⟩
 rcases h5 with h5|⟨b,o,cur,e,fr,ha,hb,ho,hr⟩
 ·exact .inl h5
 ·exact .inr ⟨b,o,cur,e,fr,ha,hk _ _ _ _ hb,ho,ef9 _ _ hr⟩
theorem Twn.aK7 {A B:j5} (hk:∀b cs t fr,A b=some (.cells cs t fr)→B b=some (.cells cs t fr)) {vm vb vt um uo ua:Value} {t:D5} (h:Twn A vm vb vt um uo ua t):Twn B vm vb vt um uo ua t:=
 ⟨⟨h.h.m.aK7 hk (fun _ _ r=>r),h.h.b.aK7 hk (fun _ _ r=>r),h.h.t.aK7 hk (fun _ _ r=>r),h.h.c⟩,⟨h.s.m.aK7 hk (fun _ _ r=>r),h.s.o.aK7 hk (fun x cs r=>by obtain⟨v,e,r⟩:=(show ∃v,cs=[v]∧Sl A v x from r);exact⟨v,e,Sl.aK7 hk (fun _ _ r=>r) r⟩),h.s.a.aK7 hk (fun _ _ r=>r),h.s.f⟩⟩
theorem aQ6.ext {s0 n0:Nat} {He Hc K K3:j5} {W w3:World} (k:aQ6 s0 n0 He Hc K W) (hx:Ext W K w3 K3) (hc:j4 Hc W) (hs:s0≤W.heap.size) {vm vb vt um uo ua:Value} {t:D5} (h:Twn K3 vm vb vt um uo ua t):
 ∃K4,aQ6 s0 n0 He Hc K4 w3∧Twn K4 vm vb vt um uo ua t∧∀b,b<W.heap.size→K4 b=K b:=by
 refine⟨fun b=>if b<W.heap.size then K b else(match K3 b with|some (.cells cs t fr)=>some (.cells cs t fr)|_=>none),⟨⟨fun b o e=> ?_⟩,fun b o e=> ?_,fun b o e=> ?_,fun b hb=> ?_⟩,h.aK7 fun b cs t fr e=> ?_,fun b hb=>if_pos hb⟩
 ·by_cases hb:b<W.heap.size
  ·simp only[if_pos hb]at e
   exact(hx.below.block b hb).trans (k.h.at_ _ _ e)
  ·simp only[if_neg hb]at e
   split at e
   ·rename_i h3;cases e;exact hx.holds.at_ _ _ h3
   ·cases e
 ·by_cases hb:b<W.heap.size
  ·simp only[if_pos hb]at e
   exact k.own b o e
  ·simp only[if_neg hb]at e
   split at e
   ·cases e;exact .inr ⟨⟨_,_,_,rfl⟩,hc.D6 (by omega)⟩
   ·cases e
 ·have h1:=k.le _ _ e
  have h2:=k.h.lt h1
  show(if b<W.heap.size then K b else _)=some o
  rw[if_pos h2];exact h1
 ·show(if b<W.heap.size then K b else _)=He b
  rw[if_pos (by omega)];exact k.same b hb
 ·show(if b<W.heap.size then K b else _)=_
  by_cases hb:b<W.heap.size
  ·rw[if_pos hb,←hx.same b hb];exact e
  ·rw[if_neg hb,e]
theorem M9.turn {R n1:Nat} {T:TypeId} {W W':World} {Hc Hc':j5} {a b c d e f g h:Value} (r:M9 R T W a b c d e f g h) (hn:Hc R=none) (ht:Q6 n1 W Hc W' Hc'):M9 R T W' a b c d e f g h∧Hc' R=none:=by
 obtain⟨h1,h2⟩:=ht.keep R _ _ _ r.at_ hn
 exact⟨⟨h1⟩,h2⟩
theorem M9.lt {R:Nat} {T:TypeId} {W:World} {a b c d e f g h:Value} (r:M9 R T W a b c d e f g h):R<W.heap.size:=(Array.getElem?_eq_some_iff.1 r.at_).1
def aD9 (t:D5):List (Rec × Bool)→D5
 |[]=>t
 |x::l=>aD9 (if x.2 then(ac9 t x.1).1 else t) l
theorem cS5 (t:D5) (l:List (Rec × Bool)) (x:Rec × Bool):aD9 t (l++[x])=if x.2 then(ac9 (aD9 t l) x.1).1 else aD9 t l:=by
 induction l generalizing t with
 |nil=>rfl
 |cons y l ih=>exact ih _
theorem cS6 {t:D5} {w:ByteArray} {a:List Int} (h:(changed t w a).2=false):(changed t w a).1=t:=by
 unfold changed at*
 cases ho:M5 t w a with
 |none=>rfl
 |some o=>
  rw[ho]at h
  simp only at h ⊢
  split at h
  ·cases h
  ·rename_i hv;rw[if_neg hv]
theorem dt7 {t:D5} {r:Rec} (h:(ac9 t r).2=false):(ac9 t r).1=t:=by
 obtain⟨ln,en⟩:=r
 cases en with
 |none=>rfl
 |some x=>exact cS6 h
theorem cS7 (t:D5) (l:List Rec):aD9 t (U4 t l)=U8 t l:=by
 induction l generalizing t with
 |nil=>rfl
 |cons r l ih=>
  show aD9 (if(ac9 t r).2 then(ac9 t r).1 else t) (U4 (ac9 t r).1 l)=U8 (ac9 t r).1 l
  cases h:(ac9 t r).2 with
  |true=>simp only[if_true];exact ih _
  |false=>
   have h2:=dt7 h
   rw[h2]
   simp only[Bool.false_eq_true,if_false]
   exact ih _
theorem cr9 {t:D5} {l:List Rec}:∀x∈U4 t l,x.2=true→∃y,x.1.en=some y:=by
 induction l generalizing t with
 |nil=>intro x hx;cases hx
 |cons r l ih=>
  intro x hx h2
  rcases List.mem_cons.1 (show x∈(r,(ac9 t r).2)::U4 (ac9 t r).1 l from hx)with rfl|hx
  ·unfold ac9 at h2
   cases he:r.en with
   |some y=>exact⟨y,rfl⟩
   |none=>rw[he]at h2;cases h2
  ·exact ih x hx h2
theorem cB7 {t:D5} (v:F6 t=true) (l:List (Rec × Bool)):F6 (aD9 t l)=true:=by
 induction l generalizing t with
 |nil=>exact v
 |cons x l ih=>
  show F6 (aD9 (if x.2 then(ac9 t x.1).1 else t) l)=true
  split
  ·exact ih (bF2 v _)
  ·exact ih v
structure ba8 (s0:Nat) (w0:World) (H0 He:j5) (TB R0:Nat) (g:D5) (Hc:j5) (pre:List (Rec × Bool)) (W:World):Prop where
 x:Ext w0 H0 W Hc
 tb:Hc TB=none
 r0:Hc R0=none
 ne:TB≠R0
 r:M9 R0 32 W (.slice none 0 0) (.slice none 0 0) (.slice none 0 0) (.int .i64 0) (.slice none 0 0) (.slice none 0 0) (.slice none 0 0) (.int .i64 0)
 k:∃K vm vb vt um uo ua,aQ6 s0 s0 He Hc K W∧K TB=none∧K R0=none∧Twn K vm vb vt um uo ua (aD9 g pre)∧M9 TB 32 W vm vb vt (.int .i64 (aD9 g pre).h.ch) um uo ua (.int .i64 (aD9 g pre).s.fr)
theorem ba8.abides {n0 s0:Nat} {w0:World} {H0 He:j5} {TB R0:Nat} {g:D5} (hn:w0.heap.size≤n0) (hs:s0≤n0):Abides n0 (ba8 s0 w0 H0 He TB R0 g):=fun Hc pre W Hc' W' h hh ht=>by
 obtain⟨K,vm,vb,vt,um,uo,ua,hk,k1,k2,tw,row⟩:=h.k
 obtain⟨row',tb'⟩:=row.turn h.tb ht
 obtain⟨r',r0'⟩:=h.r.turn h.r0 ht
 exact⟨ht.an1 h.x hn,tb',r0',h.ne,r',K,vm,vb,vt,um,uo,ua,hk.turn ht hs,k1,k2,tw,row'⟩
theorem aQ6.with {s0 n0:Nat} {He Hc K:j5} {W W':World} (k:aQ6 s0 n0 He Hc K W) (h:j4 K W'):aQ6 s0 n0 He Hc K W':=⟨h,k.own,k.le,k.same⟩
theorem M9.setH {R:Nat} {W:World} {K:j5} (h:j4 K W) (hn:K R=none) (a' b' c' d' e' f' g' h':Value):
 j4 K ((((((((W.setCell ⟨R,0,none⟩ a').setCell ⟨R,1,none⟩ b').setCell ⟨R,2,none⟩ c').setCell ⟨R,3,none⟩ d').setCell ⟨R,4,none⟩ e').setCell ⟨R,5,none⟩ f').setCell ⟨R,6,none⟩ g').setCell ⟨R,7,none⟩ h'):=
 (((((((h.setCell hn _).setCell hn _).setCell hn _).setCell hn _).setCell hn _).setCell hn _).setCell hn _).setCell hn _
theorem bw0 {S D:Nat} {W:World} (hne:D≠S) (a' b' c' d' e' f' g' h':Value):
 ((((((((W.setCell ⟨S,0,none⟩ a').setCell ⟨S,1,none⟩ b').setCell ⟨S,2,none⟩ c').setCell ⟨S,3,none⟩ d').setCell ⟨S,4,none⟩ e').setCell ⟨S,5,none⟩ f').setCell ⟨S,6,none⟩ g').setCell ⟨S,7,none⟩ h').heap[D]? =W.heap[D]? :=by
 have hoth:∀(w:World) (i:Nat) (v:Value),(w.setCell ⟨S,i,none⟩ v).heap[D]? =w.heap[D]? :=fun w i v=>heap_setCell_other w ⟨S,i,none⟩ D v hne
 rw[hoth,hoth,hoth,hoth,hoth,hoth,hoth,hoth]
theorem M9.off {R S:Nat} {T:TypeId} {W:World} {a b c d e f g h:Value} (r:M9 R T W a b c d e f g h) (hne:S≠R) (a' b' c' d' e' f' g' h':Value):
 M9 R T ((((((((W.setCell ⟨S,0,none⟩ a').setCell ⟨S,1,none⟩ b').setCell ⟨S,2,none⟩ c').setCell ⟨S,3,none⟩ d').setCell ⟨S,4,none⟩ e').setCell ⟨S,5,none⟩ f').setCell ⟨S,6,none⟩ g').setCell ⟨S,7,none⟩ h') a b c d e f g h:=by
 have hoth:∀(w:World) (i:Nat) (v:Value),(w.setCell ⟨S,i,none⟩ v).heap[R]? =w.heap[R]? :=fun w i v=>heap_setCell_other w ⟨S,i,none⟩ R v (Ne.symm hne)
 refine⟨?_⟩
 rw[hoth,hoth,hoth,hoth,hoth,hoth,hoth,hoth]
 exact r.at_
theorem aQ6.am3 {s0 n0 D:Nat} {He Hc K:j5} {W:World} {l:Option (List Deferred)} (k:aQ6 s0 n0 He Hc K W) (hD:W.heap[D]? =some (.deferred l)) (hn:n0≤D) (o:Obj):j4 K (W.putObj D o):=⟨fun b ob e=>by
 by_cases hb:b=D
 ·subst hb
  rcases k.own b ob e with h|⟨⟨cs,t,fr,rfl⟩,_⟩
  ·omega
  ·have h1:=k.h.at_ _ _ e
   rw[hD]at h1;cases h1
 ·exact(World.putObj_heap_other hb).trans (k.h.at_ _ _ e)⟩
theorem M9.am3 {R D:Nat} {T:TypeId} {W:World} {a b c d e f g h:Value} (r:M9 R T W a b c d e f g h) (hne:R≠D) (o:Obj):M9 R T (W.putObj D o) a b c d e f g h:=⟨(World.putObj_heap_other hne).trans r.at_⟩
end
section
open Go.RowKit
theorem aN0 {F:Fence} {n:Nat} {P:Program} {H:j5} {base:Nat} {w:World} {t e:TypeId} {v:Value} {xs:List Int} {ops:Array Oper} {o:Oper} {a:Act} {Q:Exit→Act→World→Prop} {rest:List Oper} {te:TypeId} {c:Nat}
 (T:af2 P t e Int) (s y:Operand) (hw:j4 H w) (hown:Own H base w e v xs) (hb:base≤w.heap.size) (x:Int) (hx:K8 x) (hlen:xs.length≤1000000000)
 (hgd:o.guard=none) (ho:o.op= .call {callee:= .builtin .append,args:= #[s,y],argTypes:= #[t,t]}) (hs:a.eval s=v) (hy:a.eval y= .slice (some ⟨w.heap.size,0,none⟩) 1 c)
 (h:∀v' w',Own H base w' e v' (xs++[x])→(w.alloc (.cells #[.int .i64 x] te)).grownBy w' v.ownBlock→j4 H w'→wpListIn F n P ops Q rest (a.put o.dst v') w'):wpListIn F n P ops Q (o::rest) a (w.alloc (.cells #[.int .i64 x] te)):=by
 obtain⟨v',w',hr,h2,h3,h4,h5⟩:=cj4 (P:=P) (te:=te) (cs:=[.int .i64 x]) T o.type hown ⟨rfl,hx⟩ hw (by simp[Enc.M4];omega) (by omega) hb c
 refine wpListIn_plain hgd fun K hK=> ?_
 unfold Oper.wpIn
 refine⟨?_, ?_⟩
 ·simp[Oper.about,ho,resolve,Target.leads,Sem.run_pure]
 ·rw[Oper.semAt_plain F _ _ (by rw[ho];intro c hc';cases hc')]
  unfold execOp
  simp only[ho,resolve,invoke,builtin,Sem.run_bind,Sem.run_pure,Result.andThen_ok,List.map_toArray,List.map_cons,List.map_nil,hs,hy,hr]
  exact hK _ _ (h v' w' h2 h3 h4)
structure ab7 (base CV:Nat) (Hc:j5) (W:World) (v:Value) (xs:List Int):Prop where
 c:Cell Hc W base CV 24 v
 o:Own Hc base W 3 v xs
section
variable {base CV:Nat} {Hc Hc':j5} {W W':World} {v:Value} {xs:List Int}
theorem ab7.new (hw:j4 Hc W) (hb:base≤W.heap.size):ab7 base W.heap.size Hc (W.alloc (.cells #[.slice none 0 0] 24)) (.slice none 0 0) []:=⟨Cell.new hw hb rfl _,Own.nil _ _ _ _⟩
theorem ab7.turn {n0:Nat} (h:ab7 base CV Hc W v xs) (ht:Q6 n0 W Hc W' Hc'):ab7 base CV Hc' W' v xs:=by
 obtain⟨h1,h2⟩:=h.o.turn h.o.free ht
 exact⟨h.c.turn ht,h1.bg0 h2⟩
theorem ab7.below (h:ab7 base CV Hc W v xs) (hw:j4 Hc W) (hb:Below W.heap.size W W'):ab7 base CV Hc W' v xs:=h.turn (Q6.ext hw hb (fh0 _))
theorem ab7.ne (h:ab7 base CV Hc W v xs):v.ownBlock≠some CV:=h.o.aq0 h.c (by decide)
theorem ab7.snap (h:ab7 base CV Hc W v xs) (h1:Hc' CV=none) (h2:∀k,v.ownBlock=some k→Hc' k=none):ab7 base CV Hc' W v xs:=⟨h.c.snap h1,h.o.bg0 h2⟩
theorem ab7.app {o:Obj} {v':Value} {x:Int} (h:ab7 base CV Hc W v xs) (ho:Own Hc base W' 3 v' (xs++[x])) (hg:(W.alloc o).grownBy W' v.ownBlock):
 Cell Hc W' base CV 24 v∧ab7 base CV Hc (W'.setCell ⟨CV,0,none⟩ v') v' (xs++[x]):=by
 have h1:Cell Hc W' base CV 24 v:=⟨(hg.block CV (by rw[World.size_alloc];have:=h.c.lt;omega) (fun e=>h.ne e.symm)).trans (h.c.alloc o).at_,h.c.free,h.c.base⟩
 exact⟨h1,h1.set v',ho.setCell (a:=⟨CV,0,none⟩) (ho.aq0 h1 (by decide)) v'⟩
theorem ab7.am3 {D:Nat} {l:Option (List Deferred)} (h:ab7 base CV Hc W v xs) (hD:W.heap[D]? =some (.deferred l)) (o:Obj):ab7 base CV Hc (W.putObj D o) v xs:=
 ⟨h.c.am3 (by rintro rfl;have:=h.c.at_;rw[hD]at this;cases this),h.o.am3 hD rfl⟩
end
theorem Ext.am3 {w0 W:World} {H0 Hc:j5} {D:Nat} {l:Option (List Deferred)} (x:Ext w0 H0 W Hc) (hn:w0.heap.size≤D) (hD:W.heap[D]? =some (.deferred l)) (o:Obj):
 ∃H',Ext w0 H0 (W.putObj D o) H'∧H' D=none∧∀b,b≠D→H' b=Hc b:=by
 refine⟨fun b=>if b=D then none else Hc b,⟨ao7 x.below hn (Array.getElem?_eq_some_iff.1 hD).1,⟨fun b ob e=> ?_⟩,fun b hb=> ?_⟩,if_pos rfl,fun b hb=>if_neg hb⟩
 ·by_cases hb:b=D
  ·rw[if_pos hb]at e;cases e
  ·rw[if_neg hb]at e;exact(World.putObj_heap_other hb).trans (x.holds.at_ _ _ e)
 ·show(if b=D then none else Hc b)=_
  rw[if_neg (by omega)];exact x.same b hb
end
section
open Go.RowKit
attribute [local go_sem] j4.drew j4.alloc j4.drewN WB.holds Oper.semAt_some Q9 O1 J7
def aG7 (n line:Int) (r:Rec):Bool:=decide (r.ln=n)&&decide (n<line)
def av8 (recs:List Rec) (n line:Int):Option Nat:=recs.findIdx? (aG7 n line)
def dB2:Option Nat→Int
 |none=> -1
 |some k=>k
theorem bN6 {recs:List Rec} {n line:Int} (h:recs.any (aG7 n line)=false):av8 recs n line=none:=by
 unfold av8
 rw[List.findIdx?_eq_none_iff]
 intro x hx
 cases hp:aG7 n line x with
 |false=>rfl
 |true=>rw[List.any_eq_false]at h;exact absurd hp (h x hx)
theorem bN7 {recs:List Rec} {n line:Int} {k:Nat} {r:Rec} (hk:At recs k r) (h:(recs.take k).any (aG7 n line)=false) (hr:aG7 n line r=true):av8 recs n line=some k:=by
 unfold av8
 rw[List.findIdx?_eq_some_iff_getElem]
 obtain⟨hlt,he⟩:=List.getElem?_eq_some_iff.1 hk
 refine⟨hlt,by rw[he];exact hr,fun j hj=> ?_⟩
 rw[List.any_eq_false]at h
 refine h _ ?_
 rw[List.mem_take_iff_getElem]
 exact⟨j,by omega,rfl⟩
theorem bI6 {recs:List Rec} {n line:Int} {k:Nat} (h:av8 recs n line=some k):∃r,At recs k r∧r.ln=n∧n<line:=by
 unfold av8 at h
 rw[List.findIdx?_eq_some_iff_getElem]at h
 obtain⟨hlt,h1,_⟩:=h
 unfold aG7 at h1
 rw[fh9,decide_eq_true_eq,decide_eq_true_eq]at h1
 exact⟨recs[k],fg0 hlt,h1.1,h1.2⟩
theorem df5 (ln n line:Int) (q:Option Addr) (C1 C2:Nat) (w:World) (h1:w.cell? ⟨C1,0,none⟩=some (.int .i64 n)) (h2:w.cell? ⟨C2,0,none⟩=some (.int .i64 line)) (l1:C1<w.heap.size) (l2:C2<w.heap.size):
 Calls Tryz.prog 178 #[.agg #[.int .i64 ln,.pointer q],.pointer (some ⟨C1,0,none⟩),.pointer (some ⟨C2,0,none⟩)] w (I1 w (.bool (decide (ln=n)&&decide (n<line)))):=by
 have l3:¬w.heap.size=C1:=by omega
 have l4:¬w.heap.size=C2:=by omega
 have e1:(ln==n)=decide (ln=n):=by rfl
 cases g1:decide (ln=n)
 all_goals cases g2:decide (n<line)
 all_goals
  rw[g1]at e1
  go_enter Tryz.func178,Tryz.ntmps178
  go_wp2
  go_ret
  exact⟨M0 (by simp[g2]),(Below.refl _ _).alloc (fh0 _) _⟩
theorem RdP.ptr {H:j5} {p:Value}:∀{o:Option F7},RdP H p o→∃q,p= .pointer q
 |none,h=>⟨none,h⟩
 |some _,⟨_,e,_⟩=>⟨_,e⟩
theorem cS8 (rv:Value) (recs:List Rec) (n line:Int) (C1 C2:Nat) (He HP:j5) (w:World) (hw:j4 HP w) (hR:bl7 HP He rv recs) (hlen:recs.length≤1000000) (h1:∀W,j4 HP W→W.cell? ⟨C1,0,none⟩=some (.int .i64 n)) (h2:∀W,j4 HP W→W.cell? ⟨C2,0,none⟩=some (.int .i64 line)) (l1:C1<w.heap.size) (l2:C2<w.heap.size):
 Calls Tryz.prog 177 #[rv,.func (.func 178) #[] #[.pointer (some ⟨C1,0,none⟩),.pointer (some ⟨C2,0,none⟩)]] w (I1 w (.int .i64 (dB2 (av8 recs n line)))):=by
 obtain⟨⟨ra,rc,rfl⟩,hrec⟩:=hR
 go_enter Tryz.func177,Tryz.ntmps177
 go_wp2
 go_loopw [5,8] (fun _ i wr=>∃k:Nat,k≤recs.length∧i= .int .i64 k∧Hid ((recs.take k).any (aG7 n line)=false)∧Ext w HP wr HP) (fun _ i _=>recs.length-(intOf i).toNat)
 case atStart=>exact⟨0,fh3 _,rfl,rfl,Ext.refl hw⟩
 case round=>
  obtain⟨k,hk,rfl,hok,E5⟩:=hrel
  have hwr:=E5.holds
  have hsz:=E5.below.size
  by_cases hlk:k<recs.length
  ·obtain⟨r,hrk⟩:=At.mk hlk
   obtain⟨b,o,cc,p,he,hi,hrd,r1,r2⟩:=hrec k r hrk
   cases he
   obtain⟨q,rfl⟩:=hrd.ptr
   have hf:=df5 r.ln n line q C1 C2 wr (h1 _ hwr) (h2 _ hwr) (by omega) (by omega)
   change Calls Tryz.prog _ _ _ (I1 wr (.bool (aG7 n line r)))at hf
   clear hrd
   cases g:aG7 n line r
   all_goals have g':=fe6 g
   all_goals rw[g]at hf
   all_goals replace hf:=fe6 hf
   ·go_wp2_with(first|((go_at_call 178;refine hf.out.mono ?_;rintro e w' ⟨rfl,hb2⟩)))
    go_roundw
    case rel=>exact⟨k+1,by omega,by go_num,by show _=_;rw[hrk.take,List.any_append,hok.out];simp only[List.any_cons,List.any_nil,g'.out];rfl,E5.step (hb2.mono E5.below.size) (hwr.below hb2)⟩
    case measure=>simp[intOf];omega
   ·go_wp2_with(first|((go_at_call 178;refine hf.out.mono ?_;rintro e w' ⟨rfl,hb2⟩)))
    go_ret
    refine⟨?_,(E5.step (hb2.mono E5.below.size) (hwr.below hb2)).below⟩
    rw[bN7 hrk hok.out g'.out];rfl
  ·go_wp2_with fail
   go_ret
   have h1:=hok.out
   rw[aq1 (xs:=recs) (k:=k) (by omega)]at h1
   refine⟨?_,E5.below⟩
   rw[bN6 h1];rfl
theorem bl7.mono {HP HP' He:j5} {v:Value} {recs:List Rec} (k:D8 HP HP') (h:bl7 HP He v recs):bl7 HP' He v recs:=by
 obtain⟨h1,h2⟩:=h
 refine⟨h1,fun i r hr=> ?_⟩
 obtain⟨b,o,c,p,e,k1,k2,k3,k4⟩:=h2 i r hr
 exact⟨b,o,c,p,e,k1,k2,lift k k3,lift k k4⟩
def eg0 (rv:Value) (n:Nat):Option Nat→Option Addr→Prop
 |none,p=>p=none
 |some k,p=>k<n∧∃b o c,rv= .slice (some ⟨b,o,none⟩) n c∧p=some ⟨b,o+k*2,none⟩
theorem cs3 {He:j5} {base:Nat} {w:World} {D:Nat} {gm gb gt gu go' ga rv:Value} {g:D5} {recs:List Rec} (d:L8 He base w D gm gb gt gu go' ga rv g recs) (n line:Int):
 Calls Tryz.prog 124 #[.pointer (some ⟨D,0,none⟩),.int .i64 n,.int .i64 line] w (fun e w'=>Below w.heap.size w w'∧∃p,e= .returned (.pointer p)∧eg0 rv recs.length (av8 recs n line) p):=by
 obtain⟨HP,hw,hle0,hD,hR⟩:=d.put
 have hl:=d.l
 clear d
 have f8:∀W',j4 HP W'→W'.cell? ⟨D,8,none⟩=_:=fun W' h=>D7 hD h 8
 simp at f8
 obtain⟨⟨ra,rc,rfl⟩,hrec⟩:=id hR
 have hmf:∀(fn:Fn) (first cap:Array Value) (w:World),(Instr.makeFunc fn first cap).run Tryz.prog w= .ok (.func fn first cap) w:=fun _ _ _ _=>rfl
 obtain⟨y1,m1,e1⟩:=(Ext.refl hw).newF #[.int .i64 n] 3
 obtain⟨y2,m2,e2⟩:=y1.newF #[.int .i64 line] 3
 have q1:=m2 _ _ e1
 rw[World.size_alloc]at e2
 rw[World.size_alloc]at q1 m2 y2
 have hsz:(((w.alloc (.cells #[.int .i64 n] 3)).alloc (.cells #[.int .i64 line] 3))).heap.size=w.heap.size+2:=by rw[World.size_alloc,World.size_alloc]
 obtain⟨H2,le2,p1,p2,x2⟩:∃H2,D8 HP H2∧H2 w.heap.size=some (.cells #[.int .i64 n] 3 (0,0))∧H2 (w.heap.size+1)=some (.cells #[.int .i64 line] 3 (0,0))∧Ext w HP ((w.alloc (.cells #[.int .i64 n] 3)).alloc (.cells #[.int .i64 line] 3)) H2:=⟨_,m1.trans m2,q1,e2,y2⟩
 clear y1 m1 e1 y2 m2 e2 q1
 have hR2:=bl7.mono le2 hR
 have f2:=lift le2 f8
 have hI:=fun W (hW:j4 H2 W) (l1:w.heap.size<W.heap.size) (l2:w.heap.size+1<W.heap.size)=>cS8 _ recs n line w.heap.size (w.heap.size+1) He H2 W hW hR2 (by omega) (fun W h=>(D7 p1 h 0).trans rfl) (fun W h=>(D7 p2 h 0).trans rfl) l1 l2
 cases hf:av8 recs n line with
 |none=>
  rw[hf]at hI
  replace hI:=fe6 hI
  clear hf hrec hR hR2
  go_enter Tryz.func124,Tryz.ntmps124
  go_upto_region 1 with fail
  generalize(w.alloc (.cells #[.int .i64 n] 3)).alloc (.cells #[.int .i64 line] 3)=w2 at*
  have hw2:=x2.holds
  go_wp2_with(go_at_call 177;refine(hI.out w2 hw2 (by omega) (by omega)).mono ?_;rintro e w3 ⟨rfl,hb3⟩)
  go_ret
  exact⟨x2.below.trans (hb3.mono x2.below.size),none,rfl,rfl⟩
 |some k=>
  rw[hf]at hI
  obtain⟨r,hrk,_⟩:=bI6 hf
  have hlt:=hrk.lt
  obtain⟨b,o,cc,p,he,_⟩:=hrec k r hrk
  cases he
  have hk0:(0:Int)≤(k:Int):=by omega
  have hk1:(k:Int)<(recs.length:Int):=by omega
  replace hI:=fe6 hI
  clear hf hrec hR hR2 hrk
  go_enter Tryz.func124,Tryz.ntmps124
  go_upto_region 1 with fail
  generalize(w.alloc (.cells #[.int .i64 n] 3)).alloc (.cells #[.int .i64 line] 3)=w2 at*
  have hw2:=x2.holds
  go_wp2_with(go_at_call 177;refine(hI.out w2 hw2 (by omega) (by omega)).mono ?_;rintro e w3 ⟨rfl,hb3⟩;have hw3:=hw2.below hb3;simp only[dB2])
  go_ret
  exact⟨x2.below.trans (hb3.mono x2.below.size),_,rfl,hlt,_,_,_,rfl,rfl⟩
end
section
open Go.RowKit
attribute [local go_sem] j4.drew j4.alloc j4.drewN WB.holds Oper.semAt_some Q9 O1 J7
def al6 (g:D5) (recs:List Rec) (line:Int):List Int:=(U4 g (ahead recs line)).map fun x=>if x.2 then 1 else 0
theorem bw1 (recs:List Rec) (line:Int):(ahead recs line).length≤recs.length:=(List.takeWhile_prefix _).length_le
theorem cc6 (g:D5) (recs:List Rec) (line:Int):(al6 g recs line).length=(ahead recs line).length:=by unfold al6;rw[fg5,bv9]
theorem bF4 {He:j5} {base:Nat} {w:World} {D:Nat} {gm gb gt gu go' ga rv:Value} {g:D5} {recs:List Rec} (d:L8 He base w D gm gb gt gu go' ga rv g recs) (v:F6 g=true) (line:Int):
 Calls Tryz.prog 179 #[.pointer (some ⟨D,0,none⟩),.int .i64 line] w (Post w He fun u H'=>Sl H' u (al6 g recs line)):=by
 obtain⟨HP,hw,hle0,hD,hR⟩:=d.put
 have hl:=d.l
 have hT:=d.t
 have hHe:=d.h
 clear d
 have hgl:(U4 g (ahead recs line)).length≤1000:=by rw[bv9];exact fh1 (bw1 _ _) hl
 refine Calls.aw5 (r:=none) (n:=3) (callsIn_of_wp_marks Tryz.func179 rfl trivial (wpIn_wide.2 ?_) rfl)
 simp only[Tryz.ntmps179,List.size_toArray,ff8,fg1,fh6,fh7,fg9,fg8,fg3,List.append_toArray,ff9,fg2]
 have hgo:=fun(W:World) (hW:j4 HP W)=>bI5 _ _ _ _ _ _ rv g recs line v D He HP W hW hle0 hT hD hR (by omega)
 have hi0:=ab7.new hw (fh0 _)
 have x1:=(Ext.refl hw).alloc (.cells #[.slice none 0 0] 24)
 go_upto_region 2 with fail
 generalize hCV:w.heap.size=CV at hi0 ⊢
 generalize w.alloc (.cells #[.slice none 0 0] 24)=w1 at*
 have hw1:=x1.holds
 replace hgo:=fe6 (hgo w1 hw1)
 clear hR hD
 go_wp2_with(go_at_call 77;refine hgo.out.mono ?_;rintro e w2 ⟨lb,H2,rfl,x2,hit⟩)
 have hw2:=x2.holds
 have hi2:ab7 CV CV H2 w2 (.slice none 0 0) (([]:List (Rec × Bool)).map fun x:Rec × Bool=>if x.2 then(1:Int)else 0):=(hi0.below hw1 x2.below).snap ((x2.same CV hi0.c.lt).trans hi0.c.free) (fun k e=>by cases e)
 replace x2:=x1.trans x2
 have hs2:w.heap.size≤w2.heap.size:=x2.below.size
 clear hi0 x1 hw1 hgo
 refine(wpIn_wide (n:=3)).1 (at6 (k:=3) (H:=H2) rfl (enters_of Tryz.func126 (by kernel_rfl) rfl) hw2 hit (fun _ _ _ ⟨_,e,_⟩=>by rw[e];rfl) (fun _ _ _ _ _ ⟨p,e,h1,h2⟩=>⟨p,e,h1,h2⟩)
  (J:=fun Hc pre W=>Ext w HP W Hc∧∃v,ab7 CV CV Hc W v (pre.map (fun x:Rec × Bool=>if x.2 then(1:Int)else 0)))
  (Jx:=fun _ _ _ _=>False)
  (J2:=fun Hc pre x args aa W=>(Ext w HP W Hc∧∃v,ab7 CV CV Hc W v (pre.map (fun x:Rec × Bool=>if x.2 then(1:Int)else 0)))∧∃p,aa={tmps:= #[.pointer (some ⟨D,0,none⟩),.int .i64 line,undef,undef,.slice none 0 0,.pointer (some ⟨CV,0,none⟩),undef,.bool x.2,.pointer (some ⟨D,0,none⟩),.int .i64 line,.func (.func 126) #[] lb,p,.bool x.2,undef,undef,undef,undef,undef,undef,undef,undef,undef,undef],defers:=[]})
  (fun _ _ _ _ _ h hh ht=>⟨ht.an1 h.1 hs2,h.2.imp fun _ h=>h.turn ht⟩) (fun _ _ _ _ _ _ h _ _=>h) (fun _ _ _ _ _ _ _ _ h hh ht=>⟨⟨ht.an1 h.1.1 hs2,h.1.2.imp fun _ h=>h.turn ht⟩,h.2⟩) ⟨x2,_,hi2⟩ ?assign ?body ?done ?stop)
 case assign=>
  rintro l Hc pre x W args hl hWc K5 hj ⟨p,rfl,_⟩ hpre
  gi_wp2
  exact⟨hWc,hj,_,rfl⟩
 case body=>
  rintro l rc Hc pre x args aa W hl hrc hWc K5 ⟨p',rfl,_⟩ hpre ⟨⟨hxc,v,hi⟩,p,rfl⟩
  have hsn:(pre++[x]).map (fun x:Rec × Bool=>if x.2 then(1:Int)else 0)=pre.map (fun x:Rec × Bool=>if x.2 then(1:Int)else 0)++[if x.2 then(1:Int)else 0]:=by rw[List.map_append];rfl
  have hpl:(pre.map (fun x:Rec × Bool=>if x.2 then(1:Int)else 0)).length≤1000:=by
   have h1:=hpre.length_le
   simp only[ff4,ff7,fg5]at h1 ⊢
   omega
  have hbW:CV≤W.heap.size:=by rw[←hCV];exact hxc.below.size
  obtain⟨ln,b⟩:=x
  simp only at hsn ⊢
  have hc:=hi.c.cell
  have hI0:K8 (0:Int):=by unfold K8;omega
  have dT2:=fh1 hpl (show 1000≤1000000000 by omega)
  clear hpre
  generalize pre.map (fun x:Rec × Bool=>if x.2 then(1:Int)else 0)=acc at*
  have hln:Hid ((acc++[(0:Int)]).length=acc.length+1):=by show _=_;simp
  obtain⟨av,cv,rfl,_,_⟩:=hi.o.form
  cases b with
  |false=>
   simp only[Bool.false_eq_true,if_false]at hsn
   replace hsn:=fe6 hsn
   gi_wp2_with (refine aN0 ag8 _ _ hWc hi.o hbW (0:Int) hI0 dT2 rfl rfl rfl rfl ?_;intro v' w4 ho4 hg4 hw4;obtain⟨c4,i4⟩:=hi.app ho4 hg4;have x4:=(hxc.alloc (.cells #[.int .i64 0] 3)).grown hg4 (fun q e=>by rw[hCV];exact(hi.o.lt q e).1) hi.o.free;obtain⟨bv,dv,rfl,_,_⟩:=ho4.form;rw[hln.out]at i4;have k4:=c4.cell;have k5:=c4.fz)
   have x5:=x4.setCell (a:=⟨CV,0,none⟩) (by rw[hCV];exact c4.base) c4.free (.slice bv (acc.length+1) dv)
   exact⟨x5.holds,x5,_,by rw[hsn.out];exact i4⟩
  |true=>
   simp only[if_true]at hsn
   replace hsn:=fe6 hsn
   gi_upto_region 6 with(refine aN0 ag8 _ _ hWc hi.o hbW (0:Int) hI0 dT2 rfl rfl rfl rfl ?_;intro v' w4 ho4 hg4 hw4;obtain⟨c4,i4⟩:=hi.app ho4 hg4;have x4:=(hxc.alloc (.cells #[.int .i64 0] 3)).grown hg4 (fun q e=>by rw[hCV];exact(hi.o.lt q e).1) hi.o.free;obtain⟨bv,dv,rfl,_,_⟩:=ho4.form;rw[hln.out]at i4;have k4:=c4.cell;have k5:=c4.fz)
   have x5:=x4.setCell (a:=⟨CV,0,none⟩) (by rw[hCV];exact c4.base) c4.free (.slice bv (acc.length+1) dv)
   obtain⟨gb,gc,hv,_,q1,q2,q3,q4,q5,hset⟩:=i4.o.dM2 (i:=acc.length) (x:=0) (show(acc++[(0:Int)])[acc.length]? =some 0 by simp)
   simp only[Value.slice.injEq,hln.out,true_and]at hv
   obtain⟨rfl,rfl⟩:=hv
   have dB3:=hset 1 (by omega)
   have e1:(acc++[(0:Int)]).set acc.length 1=acc++[1]:=by simp
   rw[e1]at dB3
   have hgc:gb≠CV:=by have h:=i4.ne;simp only[Value.ownBlock,ne_eq,Option.map_some,Option.some.injEq]at h;exact h
   have c6:=i4.c.other (a:=⟨gb,acc.length,none⟩) hgc (.int .i64 1)
   have x6:=x5.setCell (a:=⟨gb,acc.length,none⟩) (by rw[hCV];exact q3) q4 (.int .i64 1)
   have k6:=i4.c.cell
   generalize w4.setCell ⟨CV,0,none⟩ (.slice (some ⟨gb,0,none⟩) (acc.length+1) dv)=w5 at*
   clear hset hgc k4 k5 c4 x4 ho4 i4 hg4 hw4 x5
   have hpos:(0:Int)≤(acc.length:Int):=by omega
   gi_wp2
   trace_state
   exact⟨x6.holds,x6,_,by rw[hsn.out];exact⟨c6,dB3⟩⟩
 case done=>
  rintro DD Hc W hDD hWc K5 hdef ⟨hxc,v,hi⟩
  have hDW:=hWc.at_ _ _ hdef
  have hDlt:=(Array.getElem?_eq_some_iff.1 hDW).1
  have hc:=hi.c.cell
  go_wp2_with fail
  have i2:=hi.am3 hDW (.deferred none)
  have hbl:=ao7 (o:= .deferred none) hxc.below (show w.heap.size≤DD by omega) hDlt
  have i3:=i2.o.bg0 (H':=He) (fun k e=>hHe.D6 (by rw[hCV];exact(hi.o.lt k e).1))
  rw[←hCV]at i3
  obtain⟨H5,x5,_,hs5,_⟩:=i3.close (⟨hbl,hHe.below hbl,fun _ _=>rfl⟩:Ext w He _ He)
  refine ak6 hDW (results_tmp rfl _ _ _) ?_
  exact⟨_,H5,rfl,x5,hs5⟩
 case stop=>rintro _ _ _ _ _ _ _ _ _ _ h;exact h.elim
end
section
open Go.RowKit
structure R5 where
 l:List Int
instance el9:Enc R5 where
 sz:=5
 M4:=40
 rep:=fun _ r cs=>r.l.length=5∧cs=r.l.map (Value.int .i64)∧∀x∈r.l,K8 x
 len:=fun⟨h,e,_⟩=>by rw[e,fg5];exact h
 mono:=fun _ h=>h
 one:=fun⟨_,e,_⟩ u hu=>by
  rw[e]at hu
  obtain⟨x,_,rfl⟩:=List.mem_map.1 hu
  rfl
theorem eR5:af2 Tryz.prog 108 110 R5:= .mk' (.agg #[.int .i64 0,.int .i64 0,.int .i64 0,.int .i64 0,.int .i64 0]) Tryz.underlying108 (by kernel_rfl) rfl (by decide)
theorem P6.flat5 {H H':j5}:∀{xs:List R5} {cs:List Value},P6 H xs cs→P6 H' xs cs
 |[],_,h=>h
 |_::_,_,⟨c1,c2,e,h1,h2⟩=>⟨c1,c2,e,h1,P6.flat5 h2⟩
theorem Own.df6 {H H':j5} {base:Nat} {W:World} {e:TypeId} {v:Value} {xs:List R5} (h:Own H base W e v xs) (hn:∀k,v.ownBlock=some k→H' k=none):Own H' base W e v xs:=by
 obtain⟨cells,ho,hr,_,hb⟩:=h
 exact⟨cells,ho,hr.flat5,hn,hb⟩
def ac5 (vm vo va:Value) (fr:Int) (wv:Value) (z:List Int):Array Value:= #[vm,vo,va,.int .i64 fr,wv]++(z.map (Value.int .i64)).toArray
structure ae8 (S:Nat) (W:World) (vm vo va:Value) (fr:Int) (wv:Value) (z:List Int):Prop where
 at_:W.heap[S]? =some (.cells (ac5 vm vo va fr wv z) 112 (0,0))
theorem bB0 {vm vo va wv:Value} {fr:Int} {z:List Int} {i:Nat} {x:Int} (h:At z i x):(ac5 vm vo va fr wv z)[5+i]? =some (.int .i64 x):=by
 unfold ac5
 rw[Array.getElem?_append_right (by show 5≤5+i;omega)]
 show(z.map (Value.int .i64)).toArray[5+i-5]? =_
 rw[show 5+i-5=i by omega,ff0,List.getElem?_map,show z[i]? =some x from h];rfl
theorem dt8 {vm vo va wv:Value} {fr:Int} {z:List Int} {i:Nat} {y:Int}:(ac5 vm vo va fr wv z).setIfInBounds (5+i) (.int .i64 y)=ac5 vm vo va fr wv (z.set i y):=by
 refine Array.ext' ?_
 unfold ac5
 rw[Array.toList_setIfInBounds,Array.toList_append,Array.toList_append,List.map_set]
 show([vm,vo,va,Value.int .i64 fr,wv]++z.map (Value.int .i64)).set (5+i) _=[vm,vo,va,Value.int .i64 fr,wv]++(z.map (Value.int .i64)).set i _
 rw[List.set_append_right _ _ (by show 5≤5+i;omega)]
 congr 2
 show 5+i-5=i
 omega
theorem df7 {vm vo va wv u:Value} {fr:Int} {z:List Int}:(ac5 vm vo va fr wv z).setIfInBounds 4 u=ac5 vm vo va fr u z:=by
 refine Array.ext' ?_
 unfold ac5
 rw[Array.toList_setIfInBounds,Array.toList_append,Array.toList_append]
 rfl
section
variable {S:Nat} {W W':World} {vm vo va wv:Value} {fr:Int} {z:List Int}
theorem ae8.lt (r:ae8 S W vm vo va fr wv z):S<W.heap.size:=(Array.getElem?_eq_some_iff.1 r.at_).1
theorem ae8.cells (r:ae8 S W vm vo va fr wv z):W.cell? ⟨S,0,none⟩=some vm∧W.cell? ⟨S,1,none⟩=some vo∧W.cell? ⟨S,2,none⟩=some va∧W.cell? ⟨S,3,none⟩=some (.int .i64 fr)∧W.cell? ⟨S,4,none⟩=some wv:=by
 refine⟨?_, ?_, ?_, ?_, ?_⟩<;>rw[Lib.cell_of_heap r.at_]<;>unfold ac5<;>rw[Array.getElem?_append_left (by show _<5;omega)]<;>rfl
theorem ae8.cz {i:Nat} {x:Int} (r:ae8 S W vm vo va fr wv z) (h:At z i x):W.cell? ⟨S,5+i,none⟩=some (.int .i64 x):=by rw[Lib.cell_of_heap r.at_];exact bB0 h
theorem ae8.fz (r:ae8 S W vm vo va fr wv z) (i:Nat):W.frozen? ⟨S,i,none⟩=false:=Lib.frozen_of_heap r.at_ i
theorem ae8.dT4 (r:ae8 S W vm vo va fr wv z) (i:Nat) (y:Int):ae8 S (W.setCell ⟨S,5+i,none⟩ (.int .i64 y)) vm vo va fr wv (z.set i y):=⟨by rw[M7 r.at_,dt8]⟩
theorem ae8.setW (r:ae8 S W vm vo va fr wv z) (u:Value):ae8 S (W.setCell ⟨S,4,none⟩ u) vm vo va fr u z:=⟨by rw[M7 r.at_,df7]⟩
theorem ae8.off (r:ae8 S W vm vo va fr wv z) {a:Addr} (h:a.block≠S) (u:Value):ae8 S (W.setCell a u) vm vo va fr wv z:=⟨(heap_setCell_other W a S u (Ne.symm h)).trans r.at_⟩
theorem ae8.below (r:ae8 S W vm vo va fr wv z) (hb:Below W.heap.size W W'):ae8 S W' vm vo va fr wv z:=⟨(hb.block S r.lt).trans r.at_⟩
theorem ae8.alloc (r:ae8 S W vm vo va fr wv z) (o:Obj):ae8 S (W.alloc o) vm vo va fr wv z:=⟨(heap_alloc_old W o r.lt).trans r.at_⟩
theorem ae8.drew (r:ae8 S W vm vo va fr wv z):ae8 S W.drew vm vo va fr wv z:=⟨r.at_⟩
theorem ae8.turn {n0:Nat} {H H':j5} (r:ae8 S W vm vo va fr wv z) (hn:H S=none) (ht:Q6 n0 W H W' H'):ae8 S W' vm vo va fr wv z∧H' S=none:=by
 obtain⟨h1,h2⟩:=ht.keep _ _ _ _ r.at_ hn
 exact⟨⟨h1⟩,h2⟩
end
def five (f:Nat→Int):List Int:=(List.range 5).map f
theorem aX3 (f:Nat→Int):(five f).length=5:=by simp[five]
theorem aA2 (f:Nat→Int) {i:Nat} (h:i<5):At (five f) i (f i):=by
 unfold At five
 rw[List.getElem?_map,List.getElem?_range h];rfl
theorem cs4 (f g:Nat→Int) {i:Nat} (h:i<5) (h1:∀j,j<5→j≠i→g j=f j):(five f).set i (g i)=five g:=by
 refine List.ext_getElem? fun j=> ?_
 by_cases hj:j<5
 ·by_cases e:i=j
  ·subst e
   rw[List.getElem?_set_self (by rw[aX3];exact h)]
   exact(aA2 g h).symm
  ·rw[List.getElem?_set_ne e]
   exact(aA2 f hj).trans (by rw[←h1 j hj (Ne.symm e)];exact(aA2 g hj).symm)
 ·rw[List.getElem?_eq_none (by rw[List.length_set,aX3];omega),List.getElem?_eq_none (by rw[aX3];omega)]
def aa6 (s:G5) (k t:Nat):List Int:=five fun i=>if i<t then O7 s k i else 0
def ak0 (s:G5) (k:Nat):R5:=⟨aa6 s k s.mo.length⟩
def av9 (s:G5) (pre:List Nat):List Int:=five fun i=>if i<s.mo.length then al0 s i pre else 0
def ai1 (s:G5) (pre:List Nat) (k t:Nat):List Int:=five fun i=>if i<t then al0 s i (pre++[k])else if i<s.mo.length then al0 s i pre else 0
theorem cs5 (s:G5) (k:Nat) {t:Nat} (h:t<5):(aa6 s k t).set t (O7 s k t)=aa6 s k (t+1):=by
 unfold aa6
 have:=cs4 (fun i=>if i<t then O7 s k i else 0) (fun i=>if i<t+1 then O7 s k i else 0) h (fun j _ hj=>by
  by_cases h1:j<t
  ·rw[if_pos h1,if_pos (by omega)]
  ·rw[if_neg h1,if_neg (by omega)])
 simpa using this
theorem cS9 (s:G5) (k:Nat) {t:Nat} (h:t<5):At (aa6 s k (t+1)) t (O7 s k t):=by
 unfold aa6
 have:=aA2 (fun i=>if i<t+1 then O7 s k i else 0) h
 simpa using this
theorem cB8 (s:G5) (pre:List Nat) (k:Nat):ai1 s pre k s.mo.length=av9 s (pre++[k]):=by
 unfold ai1 av9
 congr 1
 funext i
 by_cases h:i<s.mo.length
 ·rw[if_pos h,if_pos h]
 ·rw[if_neg h,if_neg h,if_neg h]
theorem aT9 (s:G5) (pre:List Nat) (k:Nat) {t:Nat} (h:t<5) (ht:t<s.mo.length):At (ai1 s pre k t) t (al0 s t pre):=by
 unfold ai1
 have:=aA2 (fun i=>if i<t then al0 s i (pre++[k])else if i<s.mo.length then al0 s i pre else 0) h
 simpa [ht]using this
theorem be2 (s:G5) (pre:List Nat) (k:Nat) {t:Nat} (h:t<5) (ht:t<s.mo.length):(ai1 s pre k t).set t (al0 s t (pre++[k]))=ai1 s pre k (t+1):=by
 unfold ai1
 have:=cs4 (fun i=>if i<t then al0 s i (pre++[k])else if i<s.mo.length then al0 s i pre else 0) (fun i=>if i<t+1 then al0 s i (pre++[k])else if i<s.mo.length then al0 s i pre else 0) h (fun j _ hj=>by
  by_cases h1:j<t
  ·rw[if_pos h1,if_pos (by omega)]
  ·rw[if_neg h1,if_neg (by omega)])
 simpa using this
theorem cs6 (s:G5) (pre:List Nat) (k:Nat) {t:Nat} (h:t<5) (ht:t<s.mo.length) (e:al0 s t (pre++[k])=al0 s t pre):ai1 s pre k t=ai1 s pre k (t+1):=by
 rw[←be2 s pre k h ht,e]
 refine(List.ext_getElem? fun j=> ?_).symm
 by_cases hj:t=j
 ·subst hj
  rw[List.getElem?_set_self (by show _<(five _).length;rw[aX3];exact h)]
  exact(aT9 s pre k h ht).symm
 ·rw[List.getElem?_set_ne hj]
structure OpenAt (H:j5) (S:Nat) (vm vo va wv:Value) (s:G5):Prop where
 at_:H S=some (.cells (ac5 vm vo va s.fr wv (av9 s (F4 s))) 112 (0,0))
 sh:Sho H vm vo va s
 w:Sl H wv ((F4 s).map (ak0 s))
def aq7 (s:G5) (is:Bool) (u:Value) (H':j5):Prop:=
 if aa9 s is=0 then ∃S vm vo va wv,u= .tuple #[.pointer (some ⟨S,0,none⟩),.int .i64 0]∧OpenAt H' S vm vo va wv s
 else u= .tuple #[.pointer none,.int .i64 (aa9 s is)]
end
section
open Go.RowKit
attribute [local go_sem] j4.drew j4.alloc j4.drewN WB.holds Oper.semAt_some Q9 O1 J7
theorem bN8 {s:G5} {k:Nat} (h:k∈F4 s):k<s.wo.length:=List.mem_range.1 (List.mem_filter.1 h).1
def eg1 (l:List Int) (e:Int) (u:Value) (H':j5):Prop:=∃v,u= .tuple #[v,.int .i64 e]∧Sl H' v l
theorem cB9 (vm vo va:Value) (s:G5) (H:j5) (w:World) (hw:j4 H w) (hs:Sho H vm vo va s):
 Calls Tryz.prog 39 #[aq3 vm vo va s] w (Post w H (eg1 (az7 s) (ax6 (Y5 s)))):=by
 refine Calls.aw5 (r:=none) (n:=3) (callsIn_of_wp_marks Tryz.func39 rfl trivial (wpIn_wide.2 ?_) rfl)
 simp only[Tryz.ntmps39,List.size_toArray,ff8,fg1,fh6,fh7,fg9,fg8,fg3,List.append_toArray,ff9,fg2]
 have cF:=fun(H1:j5) (W:World) (hW:j4 H1 W) (hle:D8 H H1)=>bi5 vm vo va s H1 W hW (hs.mono hle)
 cases hv:Y5 s
 ·rw[hv]at cF
  replace cF:=fe6 cF
  have hR:Hid (az7 s=[]):=by show _=_;unfold az7;rw[hv];rfl
  have hE:Hid (ax6 (Y5 s)=20):=by show _=_;rw[hv];rfl
  go_upto_region 1 with(refine af8 rfl _ rfl (Ext.refl hw) ?_;intro B w1 H1 hle hx hB hBw;obtain⟨hc0,hc1,hc2,hc3⟩:=V6 hB;clear hB hw;have hw1:=hx.holds)
  go_wp2_with(first|(go_at_call 69;refine(cF.out _ _ hw1 hle).mono ?_;rintro e w' ⟨rfl,hb2⟩;have hx2:=hx.step (hb2.mono hx.below.size) (hw1.below hb2)))
  refine⟨_,results_tmp2 rfl _ _ _, ?_⟩
  rw[hR.out]
  exact⟨_,H1,rfl,hx2,_,rfl,Sl.Y9 _⟩
 ·rw[hv]at cF
  replace cF:=fe6 cF
  have hE:Hid (ax6 (Y5 s)=0):=by show _=_;rw[hv];rfl
  have hR:Hid (az7 s=cE3 s):=by show _=_;unfold az7;rw[hv];rfl
  have vv:=aj5.1 hv
  clear hv
  go_upto_region 1 with(refine af8 rfl _ rfl (Ext.refl hw) ?_;intro B w1 H1 hle hx hB hBw;obtain⟨hc0,hc1,hc2,hc3⟩:=V6 hB;clear hB hw;have hw1:=hx.holds)
  have hs1:=hs.mono hle
  go_upto_region 4 with(go_at_call 69;refine(cF.out _ _ hw1 hle).mono ?_;rintro e w' ⟨rfl,hb2⟩;have hx2:=hx.step (hb2.mono hx.below.size) (hw1.below hb2);have hw2:=hx2.holds;clear hx hw1)
  have hi0:=ab7.new hw2 hx2.below.size
  generalize hCV:w'.heap.size=CV at*
  replace hx2:=hx2.alloc (.cells #[.slice none 0 0] 24)
  clear hw2 hb2
  go_upto_region 5 with fail
  clear hCV
  generalize w'.alloc (.cells #[.slice none 0 0] 24)=w2 at*
  have hw2:=hx2.holds
  go_wp2_with(go_at_call 70;refine(cr8 _ _ _ s vv H1 _ hw2 hs1).mono ?_;rintro e w3 ⟨lb,H3,rfl,hx3,hit⟩)
  have hw3:=hx3.holds
  have al2:=hx2.trans hx3
  have hi3:ab7 w.heap.size CV H3 w3 (.slice none 0 0) (([]:List Nat).map Int.ofNat):=(hi0.below hw2 hx3.below).snap ((hx3.same CV hi0.c.lt).trans hi0.c.free) (fun k e=>by cases e)
  refine(wpIn_wide (n:=3)).1 (at6 (k:=3) (H:=H3) rfl (enters_of Tryz.func109 (by kernel_rfl) rfl) hw3 hit (fun _ _ _ ⟨_,e,_⟩=>by rw[e];rfl) (fun _ _ _ _ hle ⟨v,e,h⟩=>⟨v,e,h.mono hle⟩)
   (J:=fun Hc pre W=>Ext w H W Hc∧∃v,ab7 w.heap.size CV Hc W v (pre.map Int.ofNat))
   (Jx:=fun _ _ _ _=>False)
   (J2:=fun Hc pre x args aa W=>(Ext w H W Hc∧∃v,ab7 w.heap.size CV Hc W v (pre.map Int.ofNat))∧∃v,aa={tmps:= #[aq3 vm vo va s,.pointer (some ⟨B,0,none⟩),.slice none 0 0,.int .i64 0,.int .i64 (ax6 true),.pointer (some ⟨CV,0,none⟩),.int .i64 (x:Int),.agg #[vm,vo,va,.int .i64 s.fr],.int .i64 (ax6 true),.int .i64 (ax6 true),.bool (ax6 true != 0),undef,.agg #[vm,vo,va,.int .i64 s.fr],.func (.func 109) #[] lb,.int .i64 (x:Int),v,undef,undef,undef,undef,undef],defers:=[]})
   (fun _ _ _ _ _ h hh ht=>⟨ht.an1 h.1 al2.below.size,h.2.imp fun _ h=>h.turn ht⟩) (fun _ _ _ _ _ _ h _ _=>h) (fun _ _ _ _ _ _ _ _ h hh ht=>⟨⟨ht.an1 h.1.1 al2.below.size,h.1.2.imp fun _ h=>h.turn ht⟩,h.2⟩) ⟨al2,_,hi3⟩ ?assign ?body ?done ?stop)
  case assign=>
   rintro l Hc pre x W args hl hWc K5 hj ⟨p,rfl,_⟩ hpre
   gi_wp2
   exact⟨hWc,hj,_,rfl⟩
  case body=>
   rintro l rc Hc pre x args aa W hl hrc hWc K5 ⟨p',rfl,_⟩ hpre ⟨⟨hxc,v,hi⟩,p,rfl⟩
   have hsn:(pre++[x]).map Int.ofNat=pre.map Int.ofNat++[(x:Int)]:=by simp
   have hxl:(x:Nat)<s.wo.length:=bN8 (hpre.subset (show x∈pre++[x]by simp))
   have hpl:(pre.map Int.ofNat).length≤1000000000:=by
    have h1:=hpre.length_le
    have h2:=aJ5 s s.wo.length
    simp only[ff4,ff7,fg5]at h1 ⊢
    have h3:=vv.o6
    show pre.length≤_
    have h4:(F4 s).length≤s.wo.length:=h2
    omega
   have hxI:K8 (x:Int):=by have:=vv.o6;unfold K8;omega
   generalize pre.map Int.ofNat=acc at*
   have hln:Hid ((acc++[(x:Int)]).length=acc.length+1):=by show _=_;simp
   have hc:=hi.c.cell
   replace hsn:=fe6 hsn
   have hbW:=hxc.below.size
   obtain⟨av,cv,rfl,_,_⟩:=hi.o.form
   gi_wp2_with (refine aN0 ag8 _ _ hWc hi.o hbW (x:Int) hxI hpl rfl rfl rfl rfl ?_;intro v' w4 ho4 hg4 hw4;obtain⟨c4,i4⟩:=hi.app ho4 hg4;have x4:=(hxc.alloc (.cells #[.int .i64 (x:Int)] 3)).grown hg4 (fun q e=>(hi.o.lt q e).1) hi.o.free;obtain⟨bv,dv,rfl,_,_⟩:=ho4.form;rw[hln.out]at i4;have k4:=c4.cell;have k5:=c4.fz)
   have x5:=x4.setCell (a:=⟨CV,0,none⟩) c4.base c4.free (.slice bv (acc.length+1) dv)
   exact⟨x5.holds,x5,_,by rw[hsn.out];exact i4⟩
  case done=>
   rintro DD Hc W hDD hWc K5 hdef ⟨hxc,v,hi⟩
   have hDW:=hWc.at_ _ _ hdef
   have hDlt:=(Array.getElem?_eq_some_iff.1 hDW).1
   have hc:=hi.c.cell
   go_wp2_with fail
   have i2:=hi.am3 hDW (.deferred none)
   obtain⟨H4,x4,hn4,hs4⟩:=hxc.am3 (by have:=al2.below.size;omega) hDW (.deferred none)
   obtain⟨H5,x5,_,hs5,_⟩:=(i2.o.bg0 (H':=H4) (fun k e=>(hs4 k (by rintro rfl;obtain⟨_,h⟩:=hi.o.X7 e;rw[hDW]at h;cases h)).trans (hi.o.free k e))).close x4
   refine ak6 hDW (results_tmp2 rfl _ _ _) ?_
   rw[hR.out]
   exact⟨_,H5,rfl,x5,_,rfl,hs5⟩
  case stop=>rintro _ _ _ _ _ _ _ _ _ _ h;exact h.elim
end
end Go.Proofs.YtbliehinagkldaaGreatDoor
