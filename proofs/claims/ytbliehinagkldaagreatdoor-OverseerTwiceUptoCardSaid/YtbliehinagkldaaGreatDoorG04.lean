/- Lemmas and walks on which the claims of this seat lean (names and blanks made short by a program): OMore ONum OSplit OLaw0 OLaw1 OLaw2 OLaw3 ONumP. -/
import Derived.Test.YtbliehinagkldaaGreatDoorG02
import Derived.Test.YtbliehinagkldaaGreatDoorG03
import Derived.Lib.AtoiAll
import Derived.Lib.AtoiTie
import Derived.Lib.Strings
import Derived.Lib.AtoiBound

set_option linter.all false
set_option maxRecDepth 100000
set_option maxHeartbeats 16000000
open Go.Lib renaming hid → fe6 open Go.Lib (NumEnd atoiAll)
open List renaming setIfInBounds_toArray → fe7, getElem?_cons_zero → fe8, getElem?_cons_succ → fe9, getElem?_toArray → ff0, set_cons_zero → ff1, set_cons_succ → ff2, getD_eq_getElem?_getD → ff3, length_append → ff4, drop_succ_cons → ff5, drop_zero → ff6, length_singleton → ff7, length_cons → ff8, nil_append → ff9, getElem?_eq_getElem → fg0, length_nil → fg1, cons_append → fg2, push_toArray → fg3, length_map → fg5, length_take → fg6
open Array renaming replicate_zero → fg8, replicate_succ → fg9
open Nat renaming le_refl → fh0, le_trans → fh1, zero_le → fh3, lt_of_lt_of_le → fh4, reduceAdd → fh6, reduceSub → fh7
open Bool renaming and_eq_true → fh9
namespace Go.Proofs.YtbliehinagkldaaGreatDoor
section
open Go.RowKit
attribute [local go_sem] j4.drew j4.alloc j4.drewN WB.holds Oper.semAt_some
def bH3 {α:Type} [Enc α] (w0:World) (H0 H:j5) (O k:Nat) (T:TypeId) (cur:Array Value) (xs:List α) (e:Ending) (w':World):Prop:=
 e= .returned (.bool true)∧∃v' H',J4 w0 H0 O T w' H' (cur.setIfInBounds k v')∧D8 H H'∧Sl H' v' xs
theorem da4 {w0 w:World} {H0 H:j5} {O k:Nat} {T:TypeId} {cur:Array Value} (hc:J4 w0 H0 O T w H cur) {v:Value} {xs:List ah4} (hv:cur[k]? =some v) (hs:Sl H v xs) (x:ah4) (hx:K8 x.r∧K8 x.p∧K8 x.s) (hl:xs.length≤1000000):
 Calls Tryz.prog 151 #[.pointer (some ⟨O,k,none⟩),.agg #[.int .i64 x.r,.int .i64 x.p,.int .i64 x.s]] w (bH3 w0 H0 H O k T cur (xs++[x])):=by
 obtain⟨a,c,rfl,hc1,hc2⟩:=hs.form
 have hs2:=hs.cap (fh0 _) (by omega)
 obtain⟨H1,hP,al1,hput,hoth⟩:=hc.put
 have hcell:∀W,j4 H1 W→W.cell? ⟨O,k,none⟩=some (.slice a xs.length c):=fun W hW=>(D7 hput hW k).trans hv
 have hB0:Below w.heap.size w w:=Below.refl _ _
 have hxx:=fe6 hx
 clear hx
 go_enter Tryz.func151,Tryz.ntmps151
 go_upto_region 1 with(refine u7 rfl _ rfl (Ext.refl hP) ?_;intro B w1 Hb hlb hxb hBb hBw)
 have hb0:∀W,j4 Hb W→W.cell? ⟨B,0,none⟩=some (.int .i64 x.r):=fun W hW=>D7 hBb hW 0
 have hb1:∀W,j4 Hb W→W.cell? ⟨B,1,none⟩=some (.int .i64 x.p):=fun W hW=>D7 hBb hW 1
 have hb2:∀W,j4 Hb W→W.cell? ⟨B,2,none⟩=some (.int .i64 x.s):=fun W hW=>D7 hBb hW 2
 replace hcell:=lift hlb hcell
 replace hc:=hc.below hxb.below
 replace hP:=hxb.holds
 replace hB0:Below w1.heap.size w1 w1:=Below.refl _ _
 replace al1:=al1.trans hlb
 clear hBb hput hoth hlb hxb hBw
 refine U1 (S:=(fun w'=>j4 Hb w'∧Below (World.heap w1).size w1 w')) 17 (by kernel_rfl) (by kernel_rfl) ?_ (fun N9=> ?_)
 ·(try dsimp only)
  (first|assumption|exact⟨by assumption,by assumption⟩|(go_split_ands;first|exact X3 ‹_› ‹_›|exact X4 ‹_› ‹_› _|exact X5 ‹_› ‹_› _))
 simp only[ff8,fg1,fh6,fh7,fg9,fg8,fg3,ff9,fg2]
 refine D9 0 (by simp only[ff0,fe8]<;>rfl) (by kernel_rfl) (by exact fun _ _ _ h=>h) (by rfl) (by intro w hSw;(try dsimp only at hSw);go_simp;(try(with_reducible rfl))) ‹_› ?_
 (try simp only[Act.put,fe7,ff1,ff2])
 refine D9 1 (by simp only[ff0,fe9,fe8]<;>rfl) (by kernel_rfl) (by exact fun _ _ _ h=>h) (by rfl) (by intro w hSw;(try dsimp only at hSw);go_simp;(try(with_reducible rfl))) ‹_› ?_
 (try simp only[Act.put,fe7,ff1,ff2])
 refine D9 2 (by simp only[ff0,fe9,fe8]<;>rfl) (by kernel_rfl) (by exact fun _ _ _ h=>h) (by rfl) (by intro w hSw;(try dsimp only at hSw);go_simp;(try(with_reducible rfl))) ‹_› ?_
 (try simp only[Act.put,fe7,ff1,ff2])
 refine D9 3 (by simp only[ff0,fe9,fe8]<;>rfl) (by kernel_rfl) (by exact fun _ _ _ h=>h) (by rfl) (by intro w hSw;(try dsimp only at hSw);go_simp;(try(with_reducible rfl))) ‹_› ?_
 (try simp only[Act.put,fe7,ff1,ff2])
 refine D9 4 (by simp only[ff0,fe9,fe8]<;>rfl) (by kernel_rfl) (by exact fun _ _ _ h=>h) (by rfl) (by intro w hSw;(try dsimp only at hSw);go_simp;(try(with_reducible rfl))) ‹_› ?_
 (try simp only[Act.put,fe7,ff1,ff2])
 refine D9 5 (by simp only[ff0,fe9,fe8]<;>rfl) (by kernel_rfl) (by exact fun _ _ _ h=>h) (by rfl) (by intro w hSw;(try dsimp only at hSw);go_simp;(try(with_reducible rfl))) ‹_› ?_
 (try simp only[Act.put,fe7,ff1,ff2])
 refine D9 6 (by simp only[ff0,fe9,fe8]<;>rfl) (by kernel_rfl) (by exact fun _ _ _ h=>h) (by rfl) (by intro w hSw;(try dsimp only at hSw);go_simp;(try(with_reducible rfl))) ‹_› ?_
 (try simp only[Act.put,fe7,ff1,ff2])
 refine D9 8 (by simp only[ff0,fe9,fe8]<;>rfl) (by kernel_rfl) (by exact fun _ _ _ h=>h) (by rfl) (by intro w hSw;(try dsimp only at hSw);go_simp;(try(with_reducible rfl))) ‹_› ?_
 (try simp only[Act.put,fe7,ff1,ff2])
 refine D9 9 (by simp only[ff0,fe9,fe8]<;>rfl) (by kernel_rfl) (by exact fun _ _ _ h=>h) (by rfl) (by intro w hSw;(try dsimp only at hSw);go_simp;(try(with_reducible rfl))) ‹_› ?_
 (try simp only[Act.put,fe7,ff1,ff2])
 refine D9 10 (by simp only[ff0,fe9,fe8]<;>rfl) (by kernel_rfl) (by exact fun _ _ _ h=>h) (by rfl) (by intro w hSw;(try dsimp only at hSw);go_simp;(try(with_reducible rfl))) ‹_› ?_
 (try simp only[Act.put,fe7,ff1,ff2])
 refine D9 13 (by simp only[ff0,fe9,fe8]<;>rfl) (by kernel_rfl) (by exact fun _ _ _ h=>h) (by rfl) (by intro w hSw;(try dsimp only at hSw);go_simp;(try(with_reducible rfl))) ‹_› ?_
 (try simp only[Act.put,fe7,ff1,ff2])
 refine u6 (rs:=[7,11,14]) (by kernel_rfl) (by kernel_rfl) ?_
 refine r9.cons (by simp only[ff0,fe9,fe8]<;>rfl) (fun K hK=> ?_) ?_
 ·go_simp
  refine hK.out _ _ ?_ (fun I4=> ?_)
  ·(try dsimp only)
   (first|assumption|exact⟨by assumption,by assumption⟩|(go_split_ands;first|exact X3 ‹_› ‹_›|exact X4 ‹_› ‹_› _|exact X5 ‹_› ‹_› _))
  clear hK K
  (try clear N9)
  (try simp only[Act.put,fe7,ff1,ff2])
  refine u6 (rs:=[11,14]) (by kernel_rfl) (by kernel_rfl) ?_
  refine r9.cons (by simp only[ff0,fe9,fe8]<;>rfl) (fun K hK=> ?_) ?_
  ·go_simp
   refine hK.out _ _ ?_ (fun F8=> ?_)
   ·(try dsimp only)
    (first|assumption|exact⟨by assumption,by assumption⟩|(go_split_ands;first|exact X3 ‹_› ‹_›|exact X4 ‹_› ‹_› _|exact X5 ‹_› ‹_› _))
   clear hK K
   (try clear I4)
   (try simp only[Act.put,fe7,ff1,ff2])
   refine D9 12 (by simp only[ff0,fe9,fe8]<;>rfl) (by kernel_rfl) (by exact fun _ _ _ h=>h) (by rfl) (by intro w hSw;(try dsimp only at hSw);go_simp;(try(with_reducible rfl))) ‹_› ?_
   (try simp only[Act.put,fe7,ff1,ff2])
   refine u6 (rs:=[14]) (by kernel_rfl) (by kernel_rfl) ?_
   refine r9.cons (by simp only[ff0,fe9,fe8]<;>rfl) (fun K hK=> ?_) ?_
   ·go_simp
    refine hK.out _ _ ?_ (fun F9=> ?_)
    ·(try dsimp only)
     (first|assumption|exact⟨by assumption,by assumption⟩|(go_split_ands;first|exact X3 ‹_› ‹_›|exact X4 ‹_› ‹_› _|exact X5 ‹_› ‹_› _))
    clear hK K
    (try clear F8)
    (try simp only[Act.put,fe7,ff1,ff2])
    refine u6 (rs:=[15]) (by kernel_rfl) (by kernel_rfl) ?_
    refine r9.cons (by simp only[ff0,fe9,fe8]<;>rfl) (fun K hK=> ?_) ?_
    ·(go_split_ands;refine ab0 aY9 rfl _ _ rfl rfl hs2 rfl ⟨rfl,hxx.out⟩ (by intro j u hu;match j,hu with|0,hu=>(simp at hu;subst hu;simp[go_sem])|1,hu=>(simp at hu;subst hu;simp[go_sem])|2,hu=>(simp at hu;subst hu;simp[go_sem])|n+3,hu=>simp at hu) (j4.mono ‹_› al1) (by simp[Enc.M4];omega) (by omega) ?_;intro v' w' q1 q2 q3;have k1:j4 Hb w':=j4.grown ‹_› q2 (by simp);have k2:Below w1.heap.size w1 w':=Below.grown ‹_› q2 (Below.size ‹_›) (by simp))
     refine hK.out _ _ ?_ (fun I7=> ?_)
     ·(try dsimp only)
      (first|assumption|exact⟨by assumption,by assumption⟩|(go_split_ands;first|exact X3 ‹_› ‹_›|exact X4 ‹_› ‹_› _|exact X5 ‹_› ‹_› _))
     clear hK K
     (try clear F9)
     (try simp only[Act.put,fe7,ff1,ff2])
     refine D9 16 (by simp only[ff0,fe9,fe8]<;>rfl) (by kernel_rfl) (by exact fun _ _ _ h=>h) (by rfl) (by intro w hSw;(try dsimp only at hSw);go_simp;(try(with_reducible rfl))) ‹_› ?_
     (try simp only[Act.put,fe7,ff1,ff2])
     refine G9 (by kernel_rfl) ?_
     simp only[ff5,ff6]
     obtain⟨a',c',rfl,_,_⟩:=q1.form
     have hcB:=hc.below k2
     have h2:=(hcB.cell k).trans hv
     have h3:=hcB.fz k
     go_wp2
     go_ret
     have hlt:=hc.lt
     obtain⟨H',hC,hle',hs'⟩:=hcB.close q1 (fh1 hc.x.below.size (by simp)) (fun e=>by have h5:=(q1.lt O e).1;simp at h5;omega)
     rw[ff4,ff7]at hs'
     exact⟨rfl,_,H',hC.set k _,hle',hs'⟩
    exact r9.nil
   exact r9.nil
  refine r9.cons (by simp only[ff0,fe9,fe8]<;>rfl) (fun K hK=> ?_) ?_
  ·go_simp
   refine hK.out _ _ ?_ (fun F8=> ?_)
   ·(try dsimp only)
    (first|assumption|exact⟨by assumption,by assumption⟩|(go_split_ands;first|exact X3 ‹_› ‹_›|exact X4 ‹_› ‹_› _|exact X5 ‹_› ‹_› _))
   clear hK K
   (try clear I4)
   (try simp only[Act.put,fe7,ff1,ff2])
   refine u6 (rs:=[11]) (by kernel_rfl) (by kernel_rfl) ?_
   refine r9.cons (by simp only[ff0,fe9,fe8]<;>rfl) (fun K hK=> ?_) ?_
   ·go_simp
    refine hK.out _ _ ?_ (fun F9=> ?_)
    ·(try dsimp only)
     (first|assumption|exact⟨by assumption,by assumption⟩|(go_split_ands;first|exact X3 ‹_› ‹_›|exact X4 ‹_› ‹_› _|exact X5 ‹_› ‹_› _))
    clear hK K
    (try clear F8)
    (try simp only[Act.put,fe7,ff1,ff2])
    refine D9 12 (by simp only[ff0,fe9,fe8]<;>rfl) (by kernel_rfl) (by exact fun _ _ _ h=>h) (by rfl) (by intro w hSw;(try dsimp only at hSw);go_simp;(try(with_reducible rfl))) ‹_› ?_
    (try simp only[Act.put,fe7,ff1,ff2])
    refine u6 (rs:=[15]) (by kernel_rfl) (by kernel_rfl) ?_
    refine r9.cons (by simp only[ff0,fe9,fe8]<;>rfl) (fun K hK=> ?_) ?_
    ·(go_split_ands;refine ab0 aY9 rfl _ _ rfl rfl hs2 rfl ⟨rfl,hxx.out⟩ (by intro j u hu;match j,hu with|0,hu=>(simp at hu;subst hu;simp[go_sem])|1,hu=>(simp at hu;subst hu;simp[go_sem])|2,hu=>(simp at hu;subst hu;simp[go_sem])|n+3,hu=>simp at hu) (j4.mono ‹_› al1) (by simp[Enc.M4];omega) (by omega) ?_;intro v' w' q1 q2 q3;have k1:j4 Hb w':=j4.grown ‹_› q2 (by simp);have k2:Below w1.heap.size w1 w':=Below.grown ‹_› q2 (Below.size ‹_›) (by simp))
     refine hK.out _ _ ?_ (fun I7=> ?_)
     ·(try dsimp only)
      (first|assumption|exact⟨by assumption,by assumption⟩|(go_split_ands;first|exact X3 ‹_› ‹_›|exact X4 ‹_› ‹_› _|exact X5 ‹_› ‹_› _))
     clear hK K
     (try clear F9)
     (try simp only[Act.put,fe7,ff1,ff2])
     refine D9 16 (by simp only[ff0,fe9,fe8]<;>rfl) (by kernel_rfl) (by exact fun _ _ _ h=>h) (by rfl) (by intro w hSw;(try dsimp only at hSw);go_simp;(try(with_reducible rfl))) ‹_› ?_
     (try simp only[Act.put,fe7,ff1,ff2])
     refine G9 (by kernel_rfl) ?_
     simp only[ff5,ff6]
     obtain⟨a',c',rfl,_,_⟩:=q1.form
     have hcB:=hc.below k2
     have h2:=(hcB.cell k).trans hv
     have h3:=hcB.fz k
     go_wp2
     go_ret
     have hlt:=hc.lt
     obtain⟨H',hC,hle',hs'⟩:=hcB.close q1 (fh1 hc.x.below.size (by simp)) (fun e=>by have h5:=(q1.lt O e).1;simp at h5;omega)
     rw[ff4,ff7]at hs'
     exact⟨rfl,_,H',hC.set k _,hle',hs'⟩
    exact r9.nil
   exact r9.nil
  exact r9.nil
 refine r9.cons (by simp only[ff0,fe9,fe8]<;>rfl) (fun K hK=> ?_) ?_
 ·go_simp
  refine hK.out _ _ ?_ (fun I4=> ?_)
  ·(try dsimp only)
   (first|assumption|exact⟨by assumption,by assumption⟩|(go_split_ands;first|exact X3 ‹_› ‹_›|exact X4 ‹_› ‹_› _|exact X5 ‹_› ‹_› _))
  clear hK K
  (try clear N9)
  (try simp only[Act.put,fe7,ff1,ff2])
  refine u6 (rs:=[7,14]) (by kernel_rfl) (by kernel_rfl) ?_
  refine r9.cons (by simp only[ff0,fe9,fe8]<;>rfl) (fun K hK=> ?_) ?_
  ·go_simp
   refine hK.out _ _ ?_ (fun F8=> ?_)
   ·(try dsimp only)
    (first|assumption|exact⟨by assumption,by assumption⟩|(go_split_ands;first|exact X3 ‹_› ‹_›|exact X4 ‹_› ‹_› _|exact X5 ‹_› ‹_› _))
   clear hK K
   (try clear I4)
   (try simp only[Act.put,fe7,ff1,ff2])
   refine D9 12 (by simp only[ff0,fe9,fe8]<;>rfl) (by kernel_rfl) (by exact fun _ _ _ h=>h) (by rfl) (by intro w hSw;(try dsimp only at hSw);go_simp;(try(with_reducible rfl))) ‹_› ?_
   (try simp only[Act.put,fe7,ff1,ff2])
   refine u6 (rs:=[14]) (by kernel_rfl) (by kernel_rfl) ?_
   refine r9.cons (by simp only[ff0,fe9,fe8]<;>rfl) (fun K hK=> ?_) ?_
   ·go_simp
    refine hK.out _ _ ?_ (fun F9=> ?_)
    ·(try dsimp only)
     (first|assumption|exact⟨by assumption,by assumption⟩|(go_split_ands;first|exact X3 ‹_› ‹_›|exact X4 ‹_› ‹_› _|exact X5 ‹_› ‹_› _))
    clear hK K
    (try clear F8)
    (try simp only[Act.put,fe7,ff1,ff2])
    refine u6 (rs:=[15]) (by kernel_rfl) (by kernel_rfl) ?_
    refine r9.cons (by simp only[ff0,fe9,fe8]<;>rfl) (fun K hK=> ?_) ?_
    ·(go_split_ands;refine ab0 aY9 rfl _ _ rfl rfl hs2 rfl ⟨rfl,hxx.out⟩ (by intro j u hu;match j,hu with|0,hu=>(simp at hu;subst hu;simp[go_sem])|1,hu=>(simp at hu;subst hu;simp[go_sem])|2,hu=>(simp at hu;subst hu;simp[go_sem])|n+3,hu=>simp at hu) (j4.mono ‹_› al1) (by simp[Enc.M4];omega) (by omega) ?_;intro v' w' q1 q2 q3;have k1:j4 Hb w':=j4.grown ‹_› q2 (by simp);have k2:Below w1.heap.size w1 w':=Below.grown ‹_› q2 (Below.size ‹_›) (by simp))
     refine hK.out _ _ ?_ (fun I7=> ?_)
     ·(try dsimp only)
      (first|assumption|exact⟨by assumption,by assumption⟩|(go_split_ands;first|exact X3 ‹_› ‹_›|exact X4 ‹_› ‹_› _|exact X5 ‹_› ‹_› _))
     clear hK K
     (try clear F9)
     (try simp only[Act.put,fe7,ff1,ff2])
     refine D9 16 (by simp only[ff0,fe9,fe8]<;>rfl) (by kernel_rfl) (by exact fun _ _ _ h=>h) (by rfl) (by intro w hSw;(try dsimp only at hSw);go_simp;(try(with_reducible rfl))) ‹_› ?_
     (try simp only[Act.put,fe7,ff1,ff2])
     refine G9 (by kernel_rfl) ?_
     simp only[ff5,ff6]
     obtain⟨a',c',rfl,_,_⟩:=q1.form
     have hcB:=hc.below k2
     have h2:=(hcB.cell k).trans hv
     have h3:=hcB.fz k
     go_wp2
     go_ret
     have hlt:=hc.lt
     obtain⟨H',hC,hle',hs'⟩:=hcB.close q1 (fh1 hc.x.below.size (by simp)) (fun e=>by have h5:=(q1.lt O e).1;simp at h5;omega)
     rw[ff4,ff7]at hs'
     exact⟨rfl,_,H',hC.set k _,hle',hs'⟩
    exact r9.nil
   exact r9.nil
  refine r9.cons (by simp only[ff0,fe9,fe8]<;>rfl) (fun K hK=> ?_) ?_
  ·go_simp
   refine hK.out _ _ ?_ (fun F8=> ?_)
   ·(try dsimp only)
    (first|assumption|exact⟨by assumption,by assumption⟩|(go_split_ands;first|exact X3 ‹_› ‹_›|exact X4 ‹_› ‹_› _|exact X5 ‹_› ‹_› _))
   clear hK K
   (try clear I4)
   (try simp only[Act.put,fe7,ff1,ff2])
   refine u6 (rs:=[7]) (by kernel_rfl) (by kernel_rfl) ?_
   refine r9.cons (by simp only[ff0,fe9,fe8]<;>rfl) (fun K hK=> ?_) ?_
   ·go_simp
    refine hK.out _ _ ?_ (fun F9=> ?_)
    ·(try dsimp only)
     (first|assumption|exact⟨by assumption,by assumption⟩|(go_split_ands;first|exact X3 ‹_› ‹_›|exact X4 ‹_› ‹_› _|exact X5 ‹_› ‹_› _))
    clear hK K
    (try clear F8)
    (try simp only[Act.put,fe7,ff1,ff2])
    refine D9 12 (by simp only[ff0,fe9,fe8]<;>rfl) (by kernel_rfl) (by exact fun _ _ _ h=>h) (by rfl) (by intro w hSw;(try dsimp only at hSw);go_simp;(try(with_reducible rfl))) ‹_› ?_
    (try simp only[Act.put,fe7,ff1,ff2])
    refine u6 (rs:=[15]) (by kernel_rfl) (by kernel_rfl) ?_
    refine r9.cons (by simp only[ff0,fe9,fe8]<;>rfl) (fun K hK=> ?_) ?_
    ·(go_split_ands;refine ab0 aY9 rfl _ _ rfl rfl hs2 rfl ⟨rfl,hxx.out⟩ (by intro j u hu;match j,hu with|0,hu=>(simp at hu;subst hu;simp[go_sem])|1,hu=>(simp at hu;subst hu;simp[go_sem])|2,hu=>(simp at hu;subst hu;simp[go_sem])|n+3,hu=>simp at hu) (j4.mono ‹_› al1) (by simp[Enc.M4];omega) (by omega) ?_;intro v' w' q1 q2 q3;have k1:j4 Hb w':=j4.grown ‹_› q2 (by simp);have k2:Below w1.heap.size w1 w':=Below.grown ‹_› q2 (Below.size ‹_›) (by simp))
     refine hK.out _ _ ?_ (fun I7=> ?_)
     ·(try dsimp only)
      (first|assumption|exact⟨by assumption,by assumption⟩|(go_split_ands;first|exact X3 ‹_› ‹_›|exact X4 ‹_› ‹_› _|exact X5 ‹_› ‹_› _))
     clear hK K
     (try clear F9)
     (try simp only[Act.put,fe7,ff1,ff2])
     refine D9 16 (by simp only[ff0,fe9,fe8]<;>rfl) (by kernel_rfl) (by exact fun _ _ _ h=>h) (by rfl) (by intro w hSw;(try dsimp only at hSw);go_simp;(try(with_reducible rfl))) ‹_› ?_
     (try simp only[Act.put,fe7,ff1,ff2])
     refine G9 (by kernel_rfl) ?_
     simp only[ff5,ff6]
     obtain⟨a',c',rfl,_,_⟩:=q1.form
     have hcB:=hc.below k2
     have h2:=(hcB.cell k).trans hv
     have h3:=hcB.fz k
     go_wp2
     go_ret
     have hlt:=hc.lt
     obtain⟨H',hC,hle',hs'⟩:=hcB.close q1 (fh1 hc.x.below.size (by simp)) (fun e=>by have h5:=(q1.lt O e).1;simp at h5;omega)
     rw[ff4,ff7]at hs'
     exact⟨rfl,_,H',hC.set k _,hle',hs'⟩
    exact r9.nil
   exact r9.nil
  exact r9.nil
 refine r9.cons (by simp only[ff0,fe9,fe8]<;>rfl) (fun K hK=> ?_) ?_
 ·go_simp
  refine hK.out _ _ ?_ (fun I4=> ?_)
  ·(try dsimp only)
   (first|assumption|exact⟨by assumption,by assumption⟩|(go_split_ands;first|exact X3 ‹_› ‹_›|exact X4 ‹_› ‹_› _|exact X5 ‹_› ‹_› _))
  clear hK K
  (try clear N9)
  (try simp only[Act.put,fe7,ff1,ff2])
  refine u6 (rs:=[7,11]) (by kernel_rfl) (by kernel_rfl) ?_
  refine r9.cons (by simp only[ff0,fe9,fe8]<;>rfl) (fun K hK=> ?_) ?_
  ·go_simp
   refine hK.out _ _ ?_ (fun F8=> ?_)
   ·(try dsimp only)
    (first|assumption|exact⟨by assumption,by assumption⟩|(go_split_ands;first|exact X3 ‹_› ‹_›|exact X4 ‹_› ‹_› _|exact X5 ‹_› ‹_› _))
   clear hK K
   (try clear I4)
   (try simp only[Act.put,fe7,ff1,ff2])
   refine u6 (rs:=[11]) (by kernel_rfl) (by kernel_rfl) ?_
   refine r9.cons (by simp only[ff0,fe9,fe8]<;>rfl) (fun K hK=> ?_) ?_
   ·go_simp
    refine hK.out _ _ ?_ (fun F9=> ?_)
    ·(try dsimp only)
     (first|assumption|exact⟨by assumption,by assumption⟩|(go_split_ands;first|exact X3 ‹_› ‹_›|exact X4 ‹_› ‹_› _|exact X5 ‹_› ‹_› _))
    clear hK K
    (try clear F8)
    (try simp only[Act.put,fe7,ff1,ff2])
    refine D9 12 (by simp only[ff0,fe9,fe8]<;>rfl) (by kernel_rfl) (by exact fun _ _ _ h=>h) (by rfl) (by intro w hSw;(try dsimp only at hSw);go_simp;(try(with_reducible rfl))) ‹_› ?_
    (try simp only[Act.put,fe7,ff1,ff2])
    refine u6 (rs:=[15]) (by kernel_rfl) (by kernel_rfl) ?_
    refine r9.cons (by simp only[ff0,fe9,fe8]<;>rfl) (fun K hK=> ?_) ?_
    ·(go_split_ands;refine ab0 aY9 rfl _ _ rfl rfl hs2 rfl ⟨rfl,hxx.out⟩ (by intro j u hu;match j,hu with|0,hu=>(simp at hu;subst hu;simp[go_sem])|1,hu=>(simp at hu;subst hu;simp[go_sem])|2,hu=>(simp at hu;subst hu;simp[go_sem])|n+3,hu=>simp at hu) (j4.mono ‹_› al1) (by simp[Enc.M4];omega) (by omega) ?_;intro v' w' q1 q2 q3;have k1:j4 Hb w':=j4.grown ‹_› q2 (by simp);have k2:Below w1.heap.size w1 w':=Below.grown ‹_› q2 (Below.size ‹_›) (by simp))
     refine hK.out _ _ ?_ (fun I7=> ?_)
     ·(try dsimp only)
      (first|assumption|exact⟨by assumption,by assumption⟩|(go_split_ands;first|exact X3 ‹_› ‹_›|exact X4 ‹_› ‹_› _|exact X5 ‹_› ‹_› _))
     clear hK K
     (try clear F9)
     (try simp only[Act.put,fe7,ff1,ff2])
     refine D9 16 (by simp only[ff0,fe9,fe8]<;>rfl) (by kernel_rfl) (by exact fun _ _ _ h=>h) (by rfl) (by intro w hSw;(try dsimp only at hSw);go_simp;(try(with_reducible rfl))) ‹_› ?_
     (try simp only[Act.put,fe7,ff1,ff2])
     refine G9 (by kernel_rfl) ?_
     simp only[ff5,ff6]
     obtain⟨a',c',rfl,_,_⟩:=q1.form
     have hcB:=hc.below k2
     have h2:=(hcB.cell k).trans hv
     have h3:=hcB.fz k
     go_wp2
     go_ret
     have hlt:=hc.lt
     obtain⟨H',hC,hle',hs'⟩:=hcB.close q1 (fh1 hc.x.below.size (by simp)) (fun e=>by have h5:=(q1.lt O e).1;simp at h5;omega)
     rw[ff4,ff7]at hs'
     exact⟨rfl,_,H',hC.set k _,hle',hs'⟩
    exact r9.nil
   exact r9.nil
  refine r9.cons (by simp only[ff0,fe9,fe8]<;>rfl) (fun K hK=> ?_) ?_
  ·go_simp
   refine hK.out _ _ ?_ (fun F8=> ?_)
   ·(try dsimp only)
    (first|assumption|exact⟨by assumption,by assumption⟩|(go_split_ands;first|exact X3 ‹_› ‹_›|exact X4 ‹_› ‹_› _|exact X5 ‹_› ‹_› _))
   clear hK K
   (try clear I4)
   (try simp only[Act.put,fe7,ff1,ff2])
   refine u6 (rs:=[7]) (by kernel_rfl) (by kernel_rfl) ?_
   refine r9.cons (by simp only[ff0,fe9,fe8]<;>rfl) (fun K hK=> ?_) ?_
   ·go_simp
    refine hK.out _ _ ?_ (fun F9=> ?_)
    ·(try dsimp only)
     (first|assumption|exact⟨by assumption,by assumption⟩|(go_split_ands;first|exact X3 ‹_› ‹_›|exact X4 ‹_› ‹_› _|exact X5 ‹_› ‹_› _))
    clear hK K
    (try clear F8)
    (try simp only[Act.put,fe7,ff1,ff2])
    refine D9 12 (by simp only[ff0,fe9,fe8]<;>rfl) (by kernel_rfl) (by exact fun _ _ _ h=>h) (by rfl) (by intro w hSw;(try dsimp only at hSw);go_simp;(try(with_reducible rfl))) ‹_› ?_
    (try simp only[Act.put,fe7,ff1,ff2])
    refine u6 (rs:=[15]) (by kernel_rfl) (by kernel_rfl) ?_
    refine r9.cons (by simp only[ff0,fe9,fe8]<;>rfl) (fun K hK=> ?_) ?_
    ·(go_split_ands;refine ab0 aY9 rfl _ _ rfl rfl hs2 rfl ⟨rfl,hxx.out⟩ (by intro j u hu;match j,hu with|0,hu=>(simp at hu;subst hu;simp[go_sem])|1,hu=>(simp at hu;subst hu;simp[go_sem])|2,hu=>(simp at hu;subst hu;simp[go_sem])|n+3,hu=>simp at hu) (j4.mono ‹_› al1) (by simp[Enc.M4];omega) (by omega) ?_;intro v' w' q1 q2 q3;have k1:j4 Hb w':=j4.grown ‹_› q2 (by simp);have k2:Below w1.heap.size w1 w':=Below.grown ‹_› q2 (Below.size ‹_›) (by simp))
     refine hK.out _ _ ?_ (fun I7=> ?_)
     ·(try dsimp only)
      (first|assumption|exact⟨by assumption,by assumption⟩|(go_split_ands;first|exact X3 ‹_› ‹_›|exact X4 ‹_› ‹_› _|exact X5 ‹_› ‹_› _))
     clear hK K
     (try clear F9)
     (try simp only[Act.put,fe7,ff1,ff2])
     refine D9 16 (by simp only[ff0,fe9,fe8]<;>rfl) (by kernel_rfl) (by exact fun _ _ _ h=>h) (by rfl) (by intro w hSw;(try dsimp only at hSw);go_simp;(try(with_reducible rfl))) ‹_› ?_
     (try simp only[Act.put,fe7,ff1,ff2])
     refine G9 (by kernel_rfl) ?_
     simp only[ff5,ff6]
     obtain⟨a',c',rfl,_,_⟩:=q1.form
     have hcB:=hc.below k2
     have h2:=(hcB.cell k).trans hv
     have h3:=hcB.fz k
     go_wp2
     go_ret
     have hlt:=hc.lt
     obtain⟨H',hC,hle',hs'⟩:=hcB.close q1 (fh1 hc.x.below.size (by simp)) (fun e=>by have h5:=(q1.lt O e).1;simp at h5;omega)
     rw[ff4,ff7]at hs'
     exact⟨rfl,_,H',hC.set k _,hle',hs'⟩
    exact r9.nil
   exact r9.nil
  exact r9.nil
 exact r9.nil
theorem da5 {w0 w:World} {H0 H:j5} {O k:Nat} {T:TypeId} {cur:Array Value} (hc:J4 w0 H0 O T w H cur) {v:Value} {xs:List ar8} (hv:cur[k]? =some v) (hs:Sl H v xs) (x:ar8) (hx:K8 x.t∧K8 x.h∧K8 x.e) (hl:xs.length≤1000000):
 Calls Tryz.prog 159 #[.pointer (some ⟨O,k,none⟩),.agg #[.int .i64 x.t,.int .i64 x.h,.int .i64 x.e]] w (bH3 w0 H0 H O k T cur (xs++[x])):=by
 obtain⟨a,c,rfl,hc1,hc2⟩:=hs.form
 have hs2:=hs.cap (fh0 _) (by omega)
 obtain⟨H1,hP,al1,hput,hoth⟩:=hc.put
 have hcell:∀W,j4 H1 W→W.cell? ⟨O,k,none⟩=some (.slice a xs.length c):=fun W hW=>(D7 hput hW k).trans hv
 have hB0:Below w.heap.size w w:=Below.refl _ _
 have hxx:=fe6 hx
 clear hx
 go_enter Tryz.func159,Tryz.ntmps159
 go_upto_region 1 with(refine u7 rfl _ rfl (Ext.refl hP) ?_;intro B w1 Hb hlb hxb hBb hBw)
 have hb0:∀W,j4 Hb W→W.cell? ⟨B,0,none⟩=some (.int .i64 x.t):=fun W hW=>D7 hBb hW 0
 have hb1:∀W,j4 Hb W→W.cell? ⟨B,1,none⟩=some (.int .i64 x.h):=fun W hW=>D7 hBb hW 1
 have hb2:∀W,j4 Hb W→W.cell? ⟨B,2,none⟩=some (.int .i64 x.e):=fun W hW=>D7 hBb hW 2
 replace hcell:=lift hlb hcell
 replace hc:=hc.below hxb.below
 replace hP:=hxb.holds
 replace hB0:Below w1.heap.size w1 w1:=Below.refl _ _
 replace al1:=al1.trans hlb
 clear hBb hput hoth hlb hxb hBw
 refine U1 (S:=(fun w'=>j4 Hb w'∧Below (World.heap w1).size w1 w')) 17 (by kernel_rfl) (by kernel_rfl) ?_ (fun N9=> ?_)
 ·(try dsimp only)
  (first|assumption|exact⟨by assumption,by assumption⟩|(go_split_ands;first|exact X3 ‹_› ‹_›|exact X4 ‹_› ‹_› _|exact X5 ‹_› ‹_› _))
 simp only[ff8,fg1,fh6,fh7,fg9,fg8,fg3,ff9,fg2]
 refine D9 0 (by simp only[ff0,fe8]<;>rfl) (by kernel_rfl) (by exact fun _ _ _ h=>h) (by rfl) (by intro w hSw;(try dsimp only at hSw);go_simp;(try(with_reducible rfl))) ‹_› ?_
 (try simp only[Act.put,fe7,ff1,ff2])
 refine D9 1 (by simp only[ff0,fe9,fe8]<;>rfl) (by kernel_rfl) (by exact fun _ _ _ h=>h) (by rfl) (by intro w hSw;(try dsimp only at hSw);go_simp;(try(with_reducible rfl))) ‹_› ?_
 (try simp only[Act.put,fe7,ff1,ff2])
 refine D9 2 (by simp only[ff0,fe9,fe8]<;>rfl) (by kernel_rfl) (by exact fun _ _ _ h=>h) (by rfl) (by intro w hSw;(try dsimp only at hSw);go_simp;(try(with_reducible rfl))) ‹_› ?_
 (try simp only[Act.put,fe7,ff1,ff2])
 refine D9 3 (by simp only[ff0,fe9,fe8]<;>rfl) (by kernel_rfl) (by exact fun _ _ _ h=>h) (by rfl) (by intro w hSw;(try dsimp only at hSw);go_simp;(try(with_reducible rfl))) ‹_› ?_
 (try simp only[Act.put,fe7,ff1,ff2])
 refine D9 4 (by simp only[ff0,fe9,fe8]<;>rfl) (by kernel_rfl) (by exact fun _ _ _ h=>h) (by rfl) (by intro w hSw;(try dsimp only at hSw);go_simp;(try(with_reducible rfl))) ‹_› ?_
 (try simp only[Act.put,fe7,ff1,ff2])
 refine D9 5 (by simp only[ff0,fe9,fe8]<;>rfl) (by kernel_rfl) (by exact fun _ _ _ h=>h) (by rfl) (by intro w hSw;(try dsimp only at hSw);go_simp;(try(with_reducible rfl))) ‹_› ?_
 (try simp only[Act.put,fe7,ff1,ff2])
 refine D9 6 (by simp only[ff0,fe9,fe8]<;>rfl) (by kernel_rfl) (by exact fun _ _ _ h=>h) (by rfl) (by intro w hSw;(try dsimp only at hSw);go_simp;(try(with_reducible rfl))) ‹_› ?_
 (try simp only[Act.put,fe7,ff1,ff2])
 refine D9 8 (by simp only[ff0,fe9,fe8]<;>rfl) (by kernel_rfl) (by exact fun _ _ _ h=>h) (by rfl) (by intro w hSw;(try dsimp only at hSw);go_simp;(try(with_reducible rfl))) ‹_› ?_
 (try simp only[Act.put,fe7,ff1,ff2])
 refine D9 9 (by simp only[ff0,fe9,fe8]<;>rfl) (by kernel_rfl) (by exact fun _ _ _ h=>h) (by rfl) (by intro w hSw;(try dsimp only at hSw);go_simp;(try(with_reducible rfl))) ‹_› ?_
 (try simp only[Act.put,fe7,ff1,ff2])
 refine D9 10 (by simp only[ff0,fe9,fe8]<;>rfl) (by kernel_rfl) (by exact fun _ _ _ h=>h) (by rfl) (by intro w hSw;(try dsimp only at hSw);go_simp;(try(with_reducible rfl))) ‹_› ?_
 (try simp only[Act.put,fe7,ff1,ff2])
 refine D9 13 (by simp only[ff0,fe9,fe8]<;>rfl) (by kernel_rfl) (by exact fun _ _ _ h=>h) (by rfl) (by intro w hSw;(try dsimp only at hSw);go_simp;(try(with_reducible rfl))) ‹_› ?_
 (try simp only[Act.put,fe7,ff1,ff2])
 refine u6 (rs:=[7,11,14]) (by kernel_rfl) (by kernel_rfl) ?_
 refine r9.cons (by simp only[ff0,fe9,fe8]<;>rfl) (fun K hK=> ?_) ?_
 ·go_simp
  refine hK.out _ _ ?_ (fun I4=> ?_)
  ·(try dsimp only)
   (first|assumption|exact⟨by assumption,by assumption⟩|(go_split_ands;first|exact X3 ‹_› ‹_›|exact X4 ‹_› ‹_› _|exact X5 ‹_› ‹_› _))
  clear hK K
  (try clear N9)
  (try simp only[Act.put,fe7,ff1,ff2])
  refine u6 (rs:=[11,14]) (by kernel_rfl) (by kernel_rfl) ?_
  refine r9.cons (by simp only[ff0,fe9,fe8]<;>rfl) (fun K hK=> ?_) ?_
  ·go_simp
   refine hK.out _ _ ?_ (fun F8=> ?_)
   ·(try dsimp only)
    (first|assumption|exact⟨by assumption,by assumption⟩|(go_split_ands;first|exact X3 ‹_› ‹_›|exact X4 ‹_› ‹_› _|exact X5 ‹_› ‹_› _))
   clear hK K
   (try clear I4)
   (try simp only[Act.put,fe7,ff1,ff2])
   refine D9 12 (by simp only[ff0,fe9,fe8]<;>rfl) (by kernel_rfl) (by exact fun _ _ _ h=>h) (by rfl) (by intro w hSw;(try dsimp only at hSw);go_simp;(try(with_reducible rfl))) ‹_› ?_
   (try simp only[Act.put,fe7,ff1,ff2])
   refine u6 (rs:=[14]) (by kernel_rfl) (by kernel_rfl) ?_
   refine r9.cons (by simp only[ff0,fe9,fe8]<;>rfl) (fun K hK=> ?_) ?_
   ·go_simp
    refine hK.out _ _ ?_ (fun F9=> ?_)
    ·(try dsimp only)
     (first|assumption|exact⟨by assumption,by assumption⟩|(go_split_ands;first|exact X3 ‹_› ‹_›|exact X4 ‹_› ‹_› _|exact X5 ‹_› ‹_› _))
    clear hK K
    (try clear F8)
    (try simp only[Act.put,fe7,ff1,ff2])
    refine u6 (rs:=[15]) (by kernel_rfl) (by kernel_rfl) ?_
    refine r9.cons (by simp only[ff0,fe9,fe8]<;>rfl) (fun K hK=> ?_) ?_
    ·(go_split_ands;refine ab0 aZ0 rfl _ _ rfl rfl hs2 rfl ⟨rfl,hxx.out⟩ (by intro j u hu;match j,hu with|0,hu=>(simp at hu;subst hu;simp[go_sem])|1,hu=>(simp at hu;subst hu;simp[go_sem])|2,hu=>(simp at hu;subst hu;simp[go_sem])|n+3,hu=>simp at hu) (j4.mono ‹_› al1) (by simp[Enc.M4];omega) (by omega) ?_;intro v' w' q1 q2 q3;have k1:j4 Hb w':=j4.grown ‹_› q2 (by simp);have k2:Below w1.heap.size w1 w':=Below.grown ‹_› q2 (Below.size ‹_›) (by simp))
     refine hK.out _ _ ?_ (fun I7=> ?_)
     ·(try dsimp only)
      (first|assumption|exact⟨by assumption,by assumption⟩|(go_split_ands;first|exact X3 ‹_› ‹_›|exact X4 ‹_› ‹_› _|exact X5 ‹_› ‹_› _))
     clear hK K
     (try clear F9)
     (try simp only[Act.put,fe7,ff1,ff2])
     refine D9 16 (by simp only[ff0,fe9,fe8]<;>rfl) (by kernel_rfl) (by exact fun _ _ _ h=>h) (by rfl) (by intro w hSw;(try dsimp only at hSw);go_simp;(try(with_reducible rfl))) ‹_› ?_
     (try simp only[Act.put,fe7,ff1,ff2])
     refine G9 (by kernel_rfl) ?_
     simp only[ff5,ff6]
     obtain⟨a',c',rfl,_,_⟩:=q1.form
     have hcB:=hc.below k2
     have h2:=(hcB.cell k).trans hv
     have h3:=hcB.fz k
     go_wp2
     go_ret
     have hlt:=hc.lt
     obtain⟨H',hC,hle',hs'⟩:=hcB.close q1 (fh1 hc.x.below.size (by simp)) (fun e=>by have h5:=(q1.lt O e).1;simp at h5;omega)
     rw[ff4,ff7]at hs'
     exact⟨rfl,_,H',hC.set k _,hle',hs'⟩
    exact r9.nil
   exact r9.nil
  refine r9.cons (by simp only[ff0,fe9,fe8]<;>rfl) (fun K hK=> ?_) ?_
  ·go_simp
   refine hK.out _ _ ?_ (fun F8=> ?_)
   ·(try dsimp only)
    (first|assumption|exact⟨by assumption,by assumption⟩|(go_split_ands;first|exact X3 ‹_› ‹_›|exact X4 ‹_› ‹_› _|exact X5 ‹_› ‹_› _))
   clear hK K
   (try clear I4)
   (try simp only[Act.put,fe7,ff1,ff2])
   refine u6 (rs:=[11]) (by kernel_rfl) (by kernel_rfl) ?_
   refine r9.cons (by simp only[ff0,fe9,fe8]<;>rfl) (fun K hK=> ?_) ?_
   ·go_simp
    refine hK.out _ _ ?_ (fun F9=> ?_)
    ·(try dsimp only)
     (first|assumption|exact⟨by assumption,by assumption⟩|(go_split_ands;first|exact X3 ‹_› ‹_›|exact X4 ‹_› ‹_› _|exact X5 ‹_› ‹_› _))
    clear hK K
    (try clear F8)
    (try simp only[Act.put,fe7,ff1,ff2])
    refine D9 12 (by simp only[ff0,fe9,fe8]<;>rfl) (by kernel_rfl) (by exact fun _ _ _ h=>h) (by rfl) (by intro w hSw;(try dsimp only at hSw);go_simp;(try(with_reducible rfl))) ‹_› ?_
    (try simp only[Act.put,fe7,ff1,ff2])
    refine u6 (rs:=[15]) (by kernel_rfl) (by kernel_rfl) ?_
    refine r9.cons (by simp only[ff0,fe9,fe8]<;>rfl) (fun K hK=> ?_) ?_
    ·(go_split_ands;refine ab0 aZ0 rfl _ _ rfl rfl hs2 rfl ⟨rfl,hxx.out⟩ (by intro j u hu;match j,hu with|0,hu=>(simp at hu;subst hu;simp[go_sem])|1,hu=>(simp at hu;subst hu;simp[go_sem])|2,hu=>(simp at hu;subst hu;simp[go_sem])|n+3,hu=>simp at hu) (j4.mono ‹_› al1) (by simp[Enc.M4];omega) (by omega) ?_;intro v' w' q1 q2 q3;have k1:j4 Hb w':=j4.grown ‹_› q2 (by simp);have k2:Below w1.heap.size w1 w':=Below.grown ‹_› q2 (Below.size ‹_›) (by simp))
     refine hK.out _ _ ?_ (fun I7=> ?_)
     ·(try dsimp only)
      (first|assumption|exact⟨by assumption,by assumption⟩|(go_split_ands;first|exact X3 ‹_› ‹_›|exact X4 ‹_› ‹_› _|exact X5 ‹_› ‹_› _))
     clear hK K
     (try clear F9)
     (try simp only[Act.put,fe7,ff1,ff2])
     refine D9 16 (by simp only[ff0,fe9,fe8]<;>rfl) (by kernel_rfl) (by exact fun _ _ _ h=>h) (by rfl) (by intro w hSw;(try dsimp only at hSw);go_simp;(try(with_reducible rfl))) ‹_› ?_
     (try simp only[Act.put,fe7,ff1,ff2])
     refine G9 (by kernel_rfl) ?_
     simp only[ff5,ff6]
     obtain⟨a',c',rfl,_,_⟩:=q1.form
     have hcB:=hc.below k2
     have h2:=(hcB.cell k).trans hv
     have h3:=hcB.fz k
     go_wp2
     go_ret
     have hlt:=hc.lt
     obtain⟨H',hC,hle',hs'⟩:=hcB.close q1 (fh1 hc.x.below.size (by simp)) (fun e=>by have h5:=(q1.lt O e).1;simp at h5;omega)
     rw[ff4,ff7]at hs'
     exact⟨rfl,_,H',hC.set k _,hle',hs'⟩
    exact r9.nil
   exact r9.nil
  exact r9.nil
 refine r9.cons (by simp only[ff0,fe9,fe8]<;>rfl) (fun K hK=> ?_) ?_
 ·go_simp
  refine hK.out _ _ ?_ (fun I4=> ?_)
  ·(try dsimp only)
   (first|assumption|exact⟨by assumption,by assumption⟩|(go_split_ands;first|exact X3 ‹_› ‹_›|exact X4 ‹_› ‹_› _|exact X5 ‹_› ‹_› _))
  clear hK K
  (try clear N9)
  (try simp only[Act.put,fe7,ff1,ff2])
  refine u6 (rs:=[7,14]) (by kernel_rfl) (by kernel_rfl) ?_
  refine r9.cons (by simp only[ff0,fe9,fe8]<;>rfl) (fun K hK=> ?_) ?_
  ·go_simp
   refine hK.out _ _ ?_ (fun F8=> ?_)
   ·(try dsimp only)
    (first|assumption|exact⟨by assumption,by assumption⟩|(go_split_ands;first|exact X3 ‹_› ‹_›|exact X4 ‹_› ‹_› _|exact X5 ‹_› ‹_› _))
   clear hK K
   (try clear I4)
   (try simp only[Act.put,fe7,ff1,ff2])
   refine D9 12 (by simp only[ff0,fe9,fe8]<;>rfl) (by kernel_rfl) (by exact fun _ _ _ h=>h) (by rfl) (by intro w hSw;(try dsimp only at hSw);go_simp;(try(with_reducible rfl))) ‹_› ?_
   (try simp only[Act.put,fe7,ff1,ff2])
   refine u6 (rs:=[14]) (by kernel_rfl) (by kernel_rfl) ?_
   refine r9.cons (by simp only[ff0,fe9,fe8]<;>rfl) (fun K hK=> ?_) ?_
   ·go_simp
    refine hK.out _ _ ?_ (fun F9=> ?_)
    ·(try dsimp only)
     (first|assumption|exact⟨by assumption,by assumption⟩|(go_split_ands;first|exact X3 ‹_› ‹_›|exact X4 ‹_› ‹_› _|exact X5 ‹_› ‹_› _))
    clear hK K
    (try clear F8)
    (try simp only[Act.put,fe7,ff1,ff2])
    refine u6 (rs:=[15]) (by kernel_rfl) (by kernel_rfl) ?_
    refine r9.cons (by simp only[ff0,fe9,fe8]<;>rfl) (fun K hK=> ?_) ?_
    ·(go_split_ands;refine ab0 aZ0 rfl _ _ rfl rfl hs2 rfl ⟨rfl,hxx.out⟩ (by intro j u hu;match j,hu with|0,hu=>(simp at hu;subst hu;simp[go_sem])|1,hu=>(simp at hu;subst hu;simp[go_sem])|2,hu=>(simp at hu;subst hu;simp[go_sem])|n+3,hu=>simp at hu) (j4.mono ‹_› al1) (by simp[Enc.M4];omega) (by omega) ?_;intro v' w' q1 q2 q3;have k1:j4 Hb w':=j4.grown ‹_› q2 (by simp);have k2:Below w1.heap.size w1 w':=Below.grown ‹_› q2 (Below.size ‹_›) (by simp))
     refine hK.out _ _ ?_ (fun I7=> ?_)
     ·(try dsimp only)
      (first|assumption|exact⟨by assumption,by assumption⟩|(go_split_ands;first|exact X3 ‹_› ‹_›|exact X4 ‹_› ‹_› _|exact X5 ‹_› ‹_› _))
     clear hK K
     (try clear F9)
     (try simp only[Act.put,fe7,ff1,ff2])
     refine D9 16 (by simp only[ff0,fe9,fe8]<;>rfl) (by kernel_rfl) (by exact fun _ _ _ h=>h) (by rfl) (by intro w hSw;(try dsimp only at hSw);go_simp;(try(with_reducible rfl))) ‹_› ?_
     (try simp only[Act.put,fe7,ff1,ff2])
     refine G9 (by kernel_rfl) ?_
     simp only[ff5,ff6]
     obtain⟨a',c',rfl,_,_⟩:=q1.form
     have hcB:=hc.below k2
     have h2:=(hcB.cell k).trans hv
     have h3:=hcB.fz k
     go_wp2
     go_ret
     have hlt:=hc.lt
     obtain⟨H',hC,hle',hs'⟩:=hcB.close q1 (fh1 hc.x.below.size (by simp)) (fun e=>by have h5:=(q1.lt O e).1;simp at h5;omega)
     rw[ff4,ff7]at hs'
     exact⟨rfl,_,H',hC.set k _,hle',hs'⟩
    exact r9.nil
   exact r9.nil
  refine r9.cons (by simp only[ff0,fe9,fe8]<;>rfl) (fun K hK=> ?_) ?_
  ·go_simp
   refine hK.out _ _ ?_ (fun F8=> ?_)
   ·(try dsimp only)
    (first|assumption|exact⟨by assumption,by assumption⟩|(go_split_ands;first|exact X3 ‹_› ‹_›|exact X4 ‹_› ‹_› _|exact X5 ‹_› ‹_› _))
   clear hK K
   (try clear I4)
   (try simp only[Act.put,fe7,ff1,ff2])
   refine u6 (rs:=[7]) (by kernel_rfl) (by kernel_rfl) ?_
   refine r9.cons (by simp only[ff0,fe9,fe8]<;>rfl) (fun K hK=> ?_) ?_
   ·go_simp
    refine hK.out _ _ ?_ (fun F9=> ?_)
    ·(try dsimp only)
     (first|assumption|exact⟨by assumption,by assumption⟩|(go_split_ands;first|exact X3 ‹_› ‹_›|exact X4 ‹_› ‹_› _|exact X5 ‹_› ‹_› _))
    clear hK K
    (try clear F8)
    (try simp only[Act.put,fe7,ff1,ff2])
    refine D9 12 (by simp only[ff0,fe9,fe8]<;>rfl) (by kernel_rfl) (by exact fun _ _ _ h=>h) (by rfl) (by intro w hSw;(try dsimp only at hSw);go_simp;(try(with_reducible rfl))) ‹_› ?_
    (try simp only[Act.put,fe7,ff1,ff2])
    refine u6 (rs:=[15]) (by kernel_rfl) (by kernel_rfl) ?_
    refine r9.cons (by simp only[ff0,fe9,fe8]<;>rfl) (fun K hK=> ?_) ?_
    ·(go_split_ands;refine ab0 aZ0 rfl _ _ rfl rfl hs2 rfl ⟨rfl,hxx.out⟩ (by intro j u hu;match j,hu with|0,hu=>(simp at hu;subst hu;simp[go_sem])|1,hu=>(simp at hu;subst hu;simp[go_sem])|2,hu=>(simp at hu;subst hu;simp[go_sem])|n+3,hu=>simp at hu) (j4.mono ‹_› al1) (by simp[Enc.M4];omega) (by omega) ?_;intro v' w' q1 q2 q3;have k1:j4 Hb w':=j4.grown ‹_› q2 (by simp);have k2:Below w1.heap.size w1 w':=Below.grown ‹_› q2 (Below.size ‹_›) (by simp))
     refine hK.out _ _ ?_ (fun I7=> ?_)
     ·(try dsimp only)
      (first|assumption|exact⟨by assumption,by assumption⟩|(go_split_ands;first|exact X3 ‹_› ‹_›|exact X4 ‹_› ‹_› _|exact X5 ‹_› ‹_› _))
     clear hK K
     (try clear F9)
     (try simp only[Act.put,fe7,ff1,ff2])
     refine D9 16 (by simp only[ff0,fe9,fe8]<;>rfl) (by kernel_rfl) (by exact fun _ _ _ h=>h) (by rfl) (by intro w hSw;(try dsimp only at hSw);go_simp;(try(with_reducible rfl))) ‹_› ?_
     (try simp only[Act.put,fe7,ff1,ff2])
     refine G9 (by kernel_rfl) ?_
     simp only[ff5,ff6]
     obtain⟨a',c',rfl,_,_⟩:=q1.form
     have hcB:=hc.below k2
     have h2:=(hcB.cell k).trans hv
     have h3:=hcB.fz k
     go_wp2
     go_ret
     have hlt:=hc.lt
     obtain⟨H',hC,hle',hs'⟩:=hcB.close q1 (fh1 hc.x.below.size (by simp)) (fun e=>by have h5:=(q1.lt O e).1;simp at h5;omega)
     rw[ff4,ff7]at hs'
     exact⟨rfl,_,H',hC.set k _,hle',hs'⟩
    exact r9.nil
   exact r9.nil
  exact r9.nil
 refine r9.cons (by simp only[ff0,fe9,fe8]<;>rfl) (fun K hK=> ?_) ?_
 ·go_simp
  refine hK.out _ _ ?_ (fun I4=> ?_)
  ·(try dsimp only)
   (first|assumption|exact⟨by assumption,by assumption⟩|(go_split_ands;first|exact X3 ‹_› ‹_›|exact X4 ‹_› ‹_› _|exact X5 ‹_› ‹_› _))
  clear hK K
  (try clear N9)
  (try simp only[Act.put,fe7,ff1,ff2])
  refine u6 (rs:=[7,11]) (by kernel_rfl) (by kernel_rfl) ?_
  refine r9.cons (by simp only[ff0,fe9,fe8]<;>rfl) (fun K hK=> ?_) ?_
  ·go_simp
   refine hK.out _ _ ?_ (fun F8=> ?_)
   ·(try dsimp only)
    (first|assumption|exact⟨by assumption,by assumption⟩|(go_split_ands;first|exact X3 ‹_› ‹_›|exact X4 ‹_› ‹_› _|exact X5 ‹_› ‹_› _))
   clear hK K
   (try clear I4)
   (try simp only[Act.put,fe7,ff1,ff2])
   refine u6 (rs:=[11]) (by kernel_rfl) (by kernel_rfl) ?_
   refine r9.cons (by simp only[ff0,fe9,fe8]<;>rfl) (fun K hK=> ?_) ?_
   ·go_simp
    refine hK.out _ _ ?_ (fun F9=> ?_)
    ·(try dsimp only)
     (first|assumption|exact⟨by assumption,by assumption⟩|(go_split_ands;first|exact X3 ‹_› ‹_›|exact X4 ‹_› ‹_› _|exact X5 ‹_› ‹_› _))
    clear hK K
    (try clear F8)
    (try simp only[Act.put,fe7,ff1,ff2])
    refine D9 12 (by simp only[ff0,fe9,fe8]<;>rfl) (by kernel_rfl) (by exact fun _ _ _ h=>h) (by rfl) (by intro w hSw;(try dsimp only at hSw);go_simp;(try(with_reducible rfl))) ‹_› ?_
    (try simp only[Act.put,fe7,ff1,ff2])
    refine u6 (rs:=[15]) (by kernel_rfl) (by kernel_rfl) ?_
    refine r9.cons (by simp only[ff0,fe9,fe8]<;>rfl) (fun K hK=> ?_) ?_
    ·(go_split_ands;refine ab0 aZ0 rfl _ _ rfl rfl hs2 rfl ⟨rfl,hxx.out⟩ (by intro j u hu;match j,hu with|0,hu=>(simp at hu;subst hu;simp[go_sem])|1,hu=>(simp at hu;subst hu;simp[go_sem])|2,hu=>(simp at hu;subst hu;simp[go_sem])|n+3,hu=>simp at hu) (j4.mono ‹_› al1) (by simp[Enc.M4];omega) (by omega) ?_;intro v' w' q1 q2 q3;have k1:j4 Hb w':=j4.grown ‹_› q2 (by simp);have k2:Below w1.heap.size w1 w':=Below.grown ‹_› q2 (Below.size ‹_›) (by simp))
     refine hK.out _ _ ?_ (fun I7=> ?_)
     ·(try dsimp only)
      (first|assumption|exact⟨by assumption,by assumption⟩|(go_split_ands;first|exact X3 ‹_› ‹_›|exact X4 ‹_› ‹_› _|exact X5 ‹_› ‹_› _))
     clear hK K
     (try clear F9)
     (try simp only[Act.put,fe7,ff1,ff2])
     refine D9 16 (by simp only[ff0,fe9,fe8]<;>rfl) (by kernel_rfl) (by exact fun _ _ _ h=>h) (by rfl) (by intro w hSw;(try dsimp only at hSw);go_simp;(try(with_reducible rfl))) ‹_› ?_
     (try simp only[Act.put,fe7,ff1,ff2])
     refine G9 (by kernel_rfl) ?_
     simp only[ff5,ff6]
     obtain⟨a',c',rfl,_,_⟩:=q1.form
     have hcB:=hc.below k2
     have h2:=(hcB.cell k).trans hv
     have h3:=hcB.fz k
     go_wp2
     go_ret
     have hlt:=hc.lt
     obtain⟨H',hC,hle',hs'⟩:=hcB.close q1 (fh1 hc.x.below.size (by simp)) (fun e=>by have h5:=(q1.lt O e).1;simp at h5;omega)
     rw[ff4,ff7]at hs'
     exact⟨rfl,_,H',hC.set k _,hle',hs'⟩
    exact r9.nil
   exact r9.nil
  refine r9.cons (by simp only[ff0,fe9,fe8]<;>rfl) (fun K hK=> ?_) ?_
  ·go_simp
   refine hK.out _ _ ?_ (fun F8=> ?_)
   ·(try dsimp only)
    (first|assumption|exact⟨by assumption,by assumption⟩|(go_split_ands;first|exact X3 ‹_› ‹_›|exact X4 ‹_› ‹_› _|exact X5 ‹_› ‹_› _))
   clear hK K
   (try clear I4)
   (try simp only[Act.put,fe7,ff1,ff2])
   refine u6 (rs:=[7]) (by kernel_rfl) (by kernel_rfl) ?_
   refine r9.cons (by simp only[ff0,fe9,fe8]<;>rfl) (fun K hK=> ?_) ?_
   ·go_simp
    refine hK.out _ _ ?_ (fun F9=> ?_)
    ·(try dsimp only)
     (first|assumption|exact⟨by assumption,by assumption⟩|(go_split_ands;first|exact X3 ‹_› ‹_›|exact X4 ‹_› ‹_› _|exact X5 ‹_› ‹_› _))
    clear hK K
    (try clear F8)
    (try simp only[Act.put,fe7,ff1,ff2])
    refine D9 12 (by simp only[ff0,fe9,fe8]<;>rfl) (by kernel_rfl) (by exact fun _ _ _ h=>h) (by rfl) (by intro w hSw;(try dsimp only at hSw);go_simp;(try(with_reducible rfl))) ‹_› ?_
    (try simp only[Act.put,fe7,ff1,ff2])
    refine u6 (rs:=[15]) (by kernel_rfl) (by kernel_rfl) ?_
    refine r9.cons (by simp only[ff0,fe9,fe8]<;>rfl) (fun K hK=> ?_) ?_
    ·(go_split_ands;refine ab0 aZ0 rfl _ _ rfl rfl hs2 rfl ⟨rfl,hxx.out⟩ (by intro j u hu;match j,hu with|0,hu=>(simp at hu;subst hu;simp[go_sem])|1,hu=>(simp at hu;subst hu;simp[go_sem])|2,hu=>(simp at hu;subst hu;simp[go_sem])|n+3,hu=>simp at hu) (j4.mono ‹_› al1) (by simp[Enc.M4];omega) (by omega) ?_;intro v' w' q1 q2 q3;have k1:j4 Hb w':=j4.grown ‹_› q2 (by simp);have k2:Below w1.heap.size w1 w':=Below.grown ‹_› q2 (Below.size ‹_›) (by simp))
     refine hK.out _ _ ?_ (fun I7=> ?_)
     ·(try dsimp only)
      (first|assumption|exact⟨by assumption,by assumption⟩|(go_split_ands;first|exact X3 ‹_› ‹_›|exact X4 ‹_› ‹_› _|exact X5 ‹_› ‹_› _))
     clear hK K
     (try clear F9)
     (try simp only[Act.put,fe7,ff1,ff2])
     refine D9 16 (by simp only[ff0,fe9,fe8]<;>rfl) (by kernel_rfl) (by exact fun _ _ _ h=>h) (by rfl) (by intro w hSw;(try dsimp only at hSw);go_simp;(try(with_reducible rfl))) ‹_› ?_
     (try simp only[Act.put,fe7,ff1,ff2])
     refine G9 (by kernel_rfl) ?_
     simp only[ff5,ff6]
     obtain⟨a',c',rfl,_,_⟩:=q1.form
     have hcB:=hc.below k2
     have h2:=(hcB.cell k).trans hv
     have h3:=hcB.fz k
     go_wp2
     go_ret
     have hlt:=hc.lt
     obtain⟨H',hC,hle',hs'⟩:=hcB.close q1 (fh1 hc.x.below.size (by simp)) (fun e=>by have h5:=(q1.lt O e).1;simp at h5;omega)
     rw[ff4,ff7]at hs'
     exact⟨rfl,_,H',hC.set k _,hle',hs'⟩
    exact r9.nil
   exact r9.nil
  exact r9.nil
 exact r9.nil
theorem da6 {w0 w:World} {H0 H:j5} {O k:Nat} {T:TypeId} {cur:Array Value} (hc:J4 w0 H0 O T w H cur) {v:Value} {xs:List Int} (hv:cur[k]? =some v) (hs:Sl H v xs) (x:Int) (hx:K8 x) (hl:xs.length≤1000000):
 Calls Tryz.prog 155 #[.pointer (some ⟨O,k,none⟩),.int .i64 x] w (bH3 w0 H0 H O k T cur (xs++[x])):=by
 obtain⟨a,c,rfl,hc1,hc2⟩:=hs.form
 have hs2:=hs.cap (fh0 _) (by omega)
 obtain⟨H1,hP,al1,hput,hoth⟩:=hc.put
 have hcell:∀W,j4 H1 W→W.cell? ⟨O,k,none⟩=some (.slice a xs.length c):=fun W hW=>(D7 hput hW k).trans hv
 have hB0:Below w.heap.size w w:=Below.refl _ _
 have hxx:=fe6 hx
 clear hx
 go_enter Tryz.func155,Tryz.ntmps155
 go_upto_region 1 with fail
 refine U1 (S:=(fun w'=>j4 H1 w'∧Below (World.heap w).size w w')) 17 (by kernel_rfl) (by kernel_rfl) ?_ (fun N9=> ?_)
 ·(try dsimp only)
  (first|assumption|exact⟨by assumption,by assumption⟩|(go_split_ands;first|exact X3 ‹_› ‹_›|exact X4 ‹_› ‹_› _|exact X5 ‹_› ‹_› _))
 simp only[ff8,fg1,fh6,fh7,fg9,fg8,fg3,ff9,fg2]
 refine D9 0 (by simp only[ff0,fe8]<;>rfl) (by kernel_rfl) (by exact fun _ _ _ h=>h) (by rfl) (by intro w hSw;(try dsimp only at hSw);go_simp;(try(with_reducible rfl))) ‹_› ?_
 (try simp only[Act.put,fe7,ff1,ff2])
 refine D9 1 (by simp only[ff0,fe9,fe8]<;>rfl) (by kernel_rfl) (by exact fun _ _ _ h=>h) (by rfl) (by intro w hSw;(try dsimp only at hSw);go_simp;(try(with_reducible rfl))) ‹_› ?_
 (try simp only[Act.put,fe7,ff1,ff2])
 refine D9 2 (by simp only[ff0,fe9,fe8]<;>rfl) (by kernel_rfl) (by exact fun _ _ _ h=>h) (by rfl) (by intro w hSw;(try dsimp only at hSw);go_simp;(try(with_reducible rfl))) ‹_› ?_
 (try simp only[Act.put,fe7,ff1,ff2])
 refine D9 3 (by simp only[ff0,fe9,fe8]<;>rfl) (by kernel_rfl) (by exact fun _ _ _ h=>h) (by rfl) (by intro w hSw;(try dsimp only at hSw);go_simp;(try(with_reducible rfl))) ‹_› ?_
 (try simp only[Act.put,fe7,ff1,ff2])
 refine D9 4 (by simp only[ff0,fe9,fe8]<;>rfl) (by kernel_rfl) (by exact fun _ _ _ h=>h) (by rfl) (by intro w hSw;(try dsimp only at hSw);go_simp;(try(with_reducible rfl))) ‹_› ?_
 (try simp only[Act.put,fe7,ff1,ff2])
 refine D9 5 (by simp only[ff0,fe9,fe8]<;>rfl) (by kernel_rfl) (by exact fun _ _ _ h=>h) (by rfl) (by intro w hSw;(try dsimp only at hSw);go_simp;(try(with_reducible rfl))) ‹_› ?_
 (try simp only[Act.put,fe7,ff1,ff2])
 refine D9 6 (by simp only[ff0,fe9,fe8]<;>rfl) (by kernel_rfl) (by exact fun _ _ _ h=>h) (by rfl) (by intro w hSw;(try dsimp only at hSw);go_simp;(try(with_reducible rfl))) ‹_› ?_
 (try simp only[Act.put,fe7,ff1,ff2])
 refine D9 8 (by simp only[ff0,fe9,fe8]<;>rfl) (by kernel_rfl) (by exact fun _ _ _ h=>h) (by rfl) (by intro w hSw;(try dsimp only at hSw);go_simp;(try(with_reducible rfl))) ‹_› ?_
 (try simp only[Act.put,fe7,ff1,ff2])
 refine D9 9 (by simp only[ff0,fe9,fe8]<;>rfl) (by kernel_rfl) (by exact fun _ _ _ h=>h) (by rfl) (by intro w hSw;(try dsimp only at hSw);go_simp;(try(with_reducible rfl))) ‹_› ?_
 (try simp only[Act.put,fe7,ff1,ff2])
 refine D9 10 (by simp only[ff0,fe9,fe8]<;>rfl) (by kernel_rfl) (by exact fun _ _ _ h=>h) (by rfl) (by intro w hSw;(try dsimp only at hSw);go_simp;(try(with_reducible rfl))) ‹_› ?_
 (try simp only[Act.put,fe7,ff1,ff2])
 refine D9 13 (by simp only[ff0,fe9,fe8]<;>rfl) (by kernel_rfl) (by exact fun _ _ _ h=>h) (by rfl) (by intro w hSw;(try dsimp only at hSw);go_simp;(try(with_reducible rfl))) ‹_› ?_
 (try simp only[Act.put,fe7,ff1,ff2])
 refine u6 (rs:=[7,11,14]) (by kernel_rfl) (by kernel_rfl) ?_
 refine r9.cons (by simp only[ff0,fe9,fe8]<;>rfl) (fun K hK=> ?_) ?_
 ·go_simp
  refine hK.out _ _ ?_ (fun I4=> ?_)
  ·(try dsimp only)
   (first|assumption|exact⟨by assumption,by assumption⟩|(go_split_ands;first|exact X3 ‹_› ‹_›|exact X4 ‹_› ‹_› _|exact X5 ‹_› ‹_› _))
  clear hK K
  (try clear N9)
  (try simp only[Act.put,fe7,ff1,ff2])
  refine u6 (rs:=[11,14]) (by kernel_rfl) (by kernel_rfl) ?_
  refine r9.cons (by simp only[ff0,fe9,fe8]<;>rfl) (fun K hK=> ?_) ?_
  ·go_simp
   refine hK.out _ _ ?_ (fun F8=> ?_)
   ·(try dsimp only)
    (first|assumption|exact⟨by assumption,by assumption⟩|(go_split_ands;first|exact X3 ‹_› ‹_›|exact X4 ‹_› ‹_› _|exact X5 ‹_› ‹_› _))
   clear hK K
   (try clear I4)
   (try simp only[Act.put,fe7,ff1,ff2])
   refine D9 12 (by simp only[ff0,fe9,fe8]<;>rfl) (by kernel_rfl) (by exact fun _ _ _ h=>h) (by rfl) (by intro w hSw;(try dsimp only at hSw);go_simp;(try(with_reducible rfl))) ‹_› ?_
   (try simp only[Act.put,fe7,ff1,ff2])
   refine u6 (rs:=[14]) (by kernel_rfl) (by kernel_rfl) ?_
   refine r9.cons (by simp only[ff0,fe9,fe8]<;>rfl) (fun K hK=> ?_) ?_
   ·go_simp
    refine hK.out _ _ ?_ (fun F9=> ?_)
    ·(try dsimp only)
     (first|assumption|exact⟨by assumption,by assumption⟩|(go_split_ands;first|exact X3 ‹_› ‹_›|exact X4 ‹_› ‹_› _|exact X5 ‹_› ‹_› _))
    clear hK K
    (try clear F8)
    (try simp only[Act.put,fe7,ff1,ff2])
    refine u6 (rs:=[15]) (by kernel_rfl) (by kernel_rfl) ?_
    refine r9.cons (by simp only[ff0,fe9,fe8]<;>rfl) (fun K hK=> ?_) ?_
    ·(go_split_ands;refine ab0 ag8 rfl _ _ rfl rfl hs2 rfl ⟨rfl,hxx.out⟩ (one_cell (by simp[go_sem])) (j4.mono ‹_› al1) (by simp[Enc.M4];omega) (by omega) ?_;intro v' w' q1 q2 q3;have k1:j4 H1 w':=j4.grown ‹_› q2 (by simp);have k2:Below w.heap.size w w':=Below.grown ‹_› q2 (Below.size ‹_›) (by simp))
     refine hK.out _ _ ?_ (fun I7=> ?_)
     ·(try dsimp only)
      (first|assumption|exact⟨by assumption,by assumption⟩|(go_split_ands;first|exact X3 ‹_› ‹_›|exact X4 ‹_› ‹_› _|exact X5 ‹_› ‹_› _))
     clear hK K
     (try clear F9)
     (try simp only[Act.put,fe7,ff1,ff2])
     refine D9 16 (by simp only[ff0,fe9,fe8]<;>rfl) (by kernel_rfl) (by exact fun _ _ _ h=>h) (by rfl) (by intro w hSw;(try dsimp only at hSw);go_simp;(try(with_reducible rfl))) ‹_› ?_
     (try simp only[Act.put,fe7,ff1,ff2])
     refine G9 (by kernel_rfl) ?_
     simp only[ff5,ff6]
     obtain⟨a',c',rfl,_,_⟩:=q1.form
     have hcB:=hc.below k2
     have h2:=(hcB.cell k).trans hv
     have h3:=hcB.fz k
     go_wp2
     go_ret
     have hlt:=hc.lt
     obtain⟨H',hC,hle',hs'⟩:=hcB.close q1 (fh1 hc.x.below.size (by simp)) (fun e=>by have h5:=(q1.lt O e).1;simp at h5;omega)
     rw[ff4,ff7]at hs'
     exact⟨rfl,_,H',hC.set k _,hle',hs'⟩
    exact r9.nil
   exact r9.nil
  refine r9.cons (by simp only[ff0,fe9,fe8]<;>rfl) (fun K hK=> ?_) ?_
  ·go_simp
   refine hK.out _ _ ?_ (fun F8=> ?_)
   ·(try dsimp only)
    (first|assumption|exact⟨by assumption,by assumption⟩|(go_split_ands;first|exact X3 ‹_› ‹_›|exact X4 ‹_› ‹_› _|exact X5 ‹_› ‹_› _))
   clear hK K
   (try clear I4)
   (try simp only[Act.put,fe7,ff1,ff2])
   refine u6 (rs:=[11]) (by kernel_rfl) (by kernel_rfl) ?_
   refine r9.cons (by simp only[ff0,fe9,fe8]<;>rfl) (fun K hK=> ?_) ?_
   ·go_simp
    refine hK.out _ _ ?_ (fun F9=> ?_)
    ·(try dsimp only)
     (first|assumption|exact⟨by assumption,by assumption⟩|(go_split_ands;first|exact X3 ‹_› ‹_›|exact X4 ‹_› ‹_› _|exact X5 ‹_› ‹_› _))
    clear hK K
    (try clear F8)
    (try simp only[Act.put,fe7,ff1,ff2])
    refine D9 12 (by simp only[ff0,fe9,fe8]<;>rfl) (by kernel_rfl) (by exact fun _ _ _ h=>h) (by rfl) (by intro w hSw;(try dsimp only at hSw);go_simp;(try(with_reducible rfl))) ‹_› ?_
    (try simp only[Act.put,fe7,ff1,ff2])
    refine u6 (rs:=[15]) (by kernel_rfl) (by kernel_rfl) ?_
    refine r9.cons (by simp only[ff0,fe9,fe8]<;>rfl) (fun K hK=> ?_) ?_
    ·(go_split_ands;refine ab0 ag8 rfl _ _ rfl rfl hs2 rfl ⟨rfl,hxx.out⟩ (one_cell (by simp[go_sem])) (j4.mono ‹_› al1) (by simp[Enc.M4];omega) (by omega) ?_;intro v' w' q1 q2 q3;have k1:j4 H1 w':=j4.grown ‹_› q2 (by simp);have k2:Below w.heap.size w w':=Below.grown ‹_› q2 (Below.size ‹_›) (by simp))
     refine hK.out _ _ ?_ (fun I7=> ?_)
     ·(try dsimp only)
      (first|assumption|exact⟨by assumption,by assumption⟩|(go_split_ands;first|exact X3 ‹_› ‹_›|exact X4 ‹_› ‹_› _|exact X5 ‹_› ‹_› _))
     clear hK K
     (try clear F9)
     (try simp only[Act.put,fe7,ff1,ff2])
     refine D9 16 (by simp only[ff0,fe9,fe8]<;>rfl) (by kernel_rfl) (by exact fun _ _ _ h=>h) (by rfl) (by intro w hSw;(try dsimp only at hSw);go_simp;(try(with_reducible rfl))) ‹_› ?_
     (try simp only[Act.put,fe7,ff1,ff2])
     refine G9 (by kernel_rfl) ?_
     simp only[ff5,ff6]
     obtain⟨a',c',rfl,_,_⟩:=q1.form
     have hcB:=hc.below k2
     have h2:=(hcB.cell k).trans hv
     have h3:=hcB.fz k
     go_wp2
     go_ret
     have hlt:=hc.lt
     obtain⟨H',hC,hle',hs'⟩:=hcB.close q1 (fh1 hc.x.below.size (by simp)) (fun e=>by have h5:=(q1.lt O e).1;simp at h5;omega)
     rw[ff4,ff7]at hs'
     exact⟨rfl,_,H',hC.set k _,hle',hs'⟩
    exact r9.nil
   exact r9.nil
  exact r9.nil
 refine r9.cons (by simp only[ff0,fe9,fe8]<;>rfl) (fun K hK=> ?_) ?_
 ·go_simp
  refine hK.out _ _ ?_ (fun I4=> ?_)
  ·(try dsimp only)
   (first|assumption|exact⟨by assumption,by assumption⟩|(go_split_ands;first|exact X3 ‹_› ‹_›|exact X4 ‹_› ‹_› _|exact X5 ‹_› ‹_› _))
  clear hK K
  (try clear N9)
  (try simp only[Act.put,fe7,ff1,ff2])
  refine u6 (rs:=[7,14]) (by kernel_rfl) (by kernel_rfl) ?_
  refine r9.cons (by simp only[ff0,fe9,fe8]<;>rfl) (fun K hK=> ?_) ?_
  ·go_simp
   refine hK.out _ _ ?_ (fun F8=> ?_)
   ·(try dsimp only)
    (first|assumption|exact⟨by assumption,by assumption⟩|(go_split_ands;first|exact X3 ‹_› ‹_›|exact X4 ‹_› ‹_› _|exact X5 ‹_› ‹_› _))
   clear hK K
   (try clear I4)
   (try simp only[Act.put,fe7,ff1,ff2])
   refine D9 12 (by simp only[ff0,fe9,fe8]<;>rfl) (by kernel_rfl) (by exact fun _ _ _ h=>h) (by rfl) (by intro w hSw;(try dsimp only at hSw);go_simp;(try(with_reducible rfl))) ‹_› ?_
   (try simp only[Act.put,fe7,ff1,ff2])
   refine u6 (rs:=[14]) (by kernel_rfl) (by kernel_rfl) ?_
   refine r9.cons (by simp only[ff0,fe9,fe8]<;>rfl) (fun K hK=> ?_) ?_
   ·go_simp
    refine hK.out _ _ ?_ (fun F9=> ?_)
    ·(try dsimp only)
     (first|assumption|exact⟨by assumption,by assumption⟩|(go_split_ands;first|exact X3 ‹_› ‹_›|exact X4 ‹_› ‹_› _|exact X5 ‹_› ‹_› _))
    clear hK K
    (try clear F8)
    (try simp only[Act.put,fe7,ff1,ff2])
    refine u6 (rs:=[15]) (by kernel_rfl) (by kernel_rfl) ?_
    refine r9.cons (by simp only[ff0,fe9,fe8]<;>rfl) (fun K hK=> ?_) ?_
    ·(go_split_ands;refine ab0 ag8 rfl _ _ rfl rfl hs2 rfl ⟨rfl,hxx.out⟩ (one_cell (by simp[go_sem])) (j4.mono ‹_› al1) (by simp[Enc.M4];omega) (by omega) ?_;intro v' w' q1 q2 q3;have k1:j4 H1 w':=j4.grown ‹_› q2 (by simp);have k2:Below w.heap.size w w':=Below.grown ‹_› q2 (Below.size ‹_›) (by simp))
     refine hK.out _ _ ?_ (fun I7=> ?_)
     ·(try dsimp only)
      (first|assumption|exact⟨by assumption,by assumption⟩|(go_split_ands;first|exact X3 ‹_› ‹_›|exact X4 ‹_› ‹_› _|exact X5 ‹_› ‹_› _))
     clear hK K
     (try clear F9)
     (try simp only[Act.put,fe7,ff1,ff2])
     refine D9 16 (by simp only[ff0,fe9,fe8]<;>rfl) (by kernel_rfl) (by exact fun _ _ _ h=>h) (by rfl) (by intro w hSw;(try dsimp only at hSw);go_simp;(try(with_reducible rfl))) ‹_› ?_
     (try simp only[Act.put,fe7,ff1,ff2])
     refine G9 (by kernel_rfl) ?_
     simp only[ff5,ff6]
     obtain⟨a',c',rfl,_,_⟩:=q1.form
     have hcB:=hc.below k2
     have h2:=(hcB.cell k).trans hv
     have h3:=hcB.fz k
     go_wp2
     go_ret
     have hlt:=hc.lt
     obtain⟨H',hC,hle',hs'⟩:=hcB.close q1 (fh1 hc.x.below.size (by simp)) (fun e=>by have h5:=(q1.lt O e).1;simp at h5;omega)
     rw[ff4,ff7]at hs'
     exact⟨rfl,_,H',hC.set k _,hle',hs'⟩
    exact r9.nil
   exact r9.nil
  refine r9.cons (by simp only[ff0,fe9,fe8]<;>rfl) (fun K hK=> ?_) ?_
  ·go_simp
   refine hK.out _ _ ?_ (fun F8=> ?_)
   ·(try dsimp only)
    (first|assumption|exact⟨by assumption,by assumption⟩|(go_split_ands;first|exact X3 ‹_› ‹_›|exact X4 ‹_› ‹_› _|exact X5 ‹_› ‹_› _))
   clear hK K
   (try clear I4)
   (try simp only[Act.put,fe7,ff1,ff2])
   refine u6 (rs:=[7]) (by kernel_rfl) (by kernel_rfl) ?_
   refine r9.cons (by simp only[ff0,fe9,fe8]<;>rfl) (fun K hK=> ?_) ?_
   ·go_simp
    refine hK.out _ _ ?_ (fun F9=> ?_)
    ·(try dsimp only)
     (first|assumption|exact⟨by assumption,by assumption⟩|(go_split_ands;first|exact X3 ‹_› ‹_›|exact X4 ‹_› ‹_› _|exact X5 ‹_› ‹_› _))
    clear hK K
    (try clear F8)
    (try simp only[Act.put,fe7,ff1,ff2])
    refine D9 12 (by simp only[ff0,fe9,fe8]<;>rfl) (by kernel_rfl) (by exact fun _ _ _ h=>h) (by rfl) (by intro w hSw;(try dsimp only at hSw);go_simp;(try(with_reducible rfl))) ‹_› ?_
    (try simp only[Act.put,fe7,ff1,ff2])
    refine u6 (rs:=[15]) (by kernel_rfl) (by kernel_rfl) ?_
    refine r9.cons (by simp only[ff0,fe9,fe8]<;>rfl) (fun K hK=> ?_) ?_
    ·(go_split_ands;refine ab0 ag8 rfl _ _ rfl rfl hs2 rfl ⟨rfl,hxx.out⟩ (one_cell (by simp[go_sem])) (j4.mono ‹_› al1) (by simp[Enc.M4];omega) (by omega) ?_;intro v' w' q1 q2 q3;have k1:j4 H1 w':=j4.grown ‹_› q2 (by simp);have k2:Below w.heap.size w w':=Below.grown ‹_› q2 (Below.size ‹_›) (by simp))
     refine hK.out _ _ ?_ (fun I7=> ?_)
     ·(try dsimp only)
      (first|assumption|exact⟨by assumption,by assumption⟩|(go_split_ands;first|exact X3 ‹_› ‹_›|exact X4 ‹_› ‹_› _|exact X5 ‹_› ‹_› _))
     clear hK K
     (try clear F9)
     (try simp only[Act.put,fe7,ff1,ff2])
     refine D9 16 (by simp only[ff0,fe9,fe8]<;>rfl) (by kernel_rfl) (by exact fun _ _ _ h=>h) (by rfl) (by intro w hSw;(try dsimp only at hSw);go_simp;(try(with_reducible rfl))) ‹_› ?_
     (try simp only[Act.put,fe7,ff1,ff2])
     refine G9 (by kernel_rfl) ?_
     simp only[ff5,ff6]
     obtain⟨a',c',rfl,_,_⟩:=q1.form
     have hcB:=hc.below k2
     have h2:=(hcB.cell k).trans hv
     have h3:=hcB.fz k
     go_wp2
     go_ret
     have hlt:=hc.lt
     obtain⟨H',hC,hle',hs'⟩:=hcB.close q1 (fh1 hc.x.below.size (by simp)) (fun e=>by have h5:=(q1.lt O e).1;simp at h5;omega)
     rw[ff4,ff7]at hs'
     exact⟨rfl,_,H',hC.set k _,hle',hs'⟩
    exact r9.nil
   exact r9.nil
  exact r9.nil
 refine r9.cons (by simp only[ff0,fe9,fe8]<;>rfl) (fun K hK=> ?_) ?_
 ·go_simp
  refine hK.out _ _ ?_ (fun I4=> ?_)
  ·(try dsimp only)
   (first|assumption|exact⟨by assumption,by assumption⟩|(go_split_ands;first|exact X3 ‹_› ‹_›|exact X4 ‹_› ‹_› _|exact X5 ‹_› ‹_› _))
  clear hK K
  (try clear N9)
  (try simp only[Act.put,fe7,ff1,ff2])
  refine u6 (rs:=[7,11]) (by kernel_rfl) (by kernel_rfl) ?_
  refine r9.cons (by simp only[ff0,fe9,fe8]<;>rfl) (fun K hK=> ?_) ?_
  ·go_simp
   refine hK.out _ _ ?_ (fun F8=> ?_)
   ·(try dsimp only)
    (first|assumption|exact⟨by assumption,by assumption⟩|(go_split_ands;first|exact X3 ‹_› ‹_›|exact X4 ‹_› ‹_› _|exact X5 ‹_› ‹_› _))
   clear hK K
   (try clear I4)
   (try simp only[Act.put,fe7,ff1,ff2])
   refine u6 (rs:=[11]) (by kernel_rfl) (by kernel_rfl) ?_
   refine r9.cons (by simp only[ff0,fe9,fe8]<;>rfl) (fun K hK=> ?_) ?_
   ·go_simp
    refine hK.out _ _ ?_ (fun F9=> ?_)
    ·(try dsimp only)
     (first|assumption|exact⟨by assumption,by assumption⟩|(go_split_ands;first|exact X3 ‹_› ‹_›|exact X4 ‹_› ‹_› _|exact X5 ‹_› ‹_› _))
    clear hK K
    (try clear F8)
    (try simp only[Act.put,fe7,ff1,ff2])
    refine D9 12 (by simp only[ff0,fe9,fe8]<;>rfl) (by kernel_rfl) (by exact fun _ _ _ h=>h) (by rfl) (by intro w hSw;(try dsimp only at hSw);go_simp;(try(with_reducible rfl))) ‹_› ?_
    (try simp only[Act.put,fe7,ff1,ff2])
    refine u6 (rs:=[15]) (by kernel_rfl) (by kernel_rfl) ?_
    refine r9.cons (by simp only[ff0,fe9,fe8]<;>rfl) (fun K hK=> ?_) ?_
    ·(go_split_ands;refine ab0 ag8 rfl _ _ rfl rfl hs2 rfl ⟨rfl,hxx.out⟩ (one_cell (by simp[go_sem])) (j4.mono ‹_› al1) (by simp[Enc.M4];omega) (by omega) ?_;intro v' w' q1 q2 q3;have k1:j4 H1 w':=j4.grown ‹_› q2 (by simp);have k2:Below w.heap.size w w':=Below.grown ‹_› q2 (Below.size ‹_›) (by simp))
     refine hK.out _ _ ?_ (fun I7=> ?_)
     ·(try dsimp only)
      (first|assumption|exact⟨by assumption,by assumption⟩|(go_split_ands;first|exact X3 ‹_› ‹_›|exact X4 ‹_› ‹_› _|exact X5 ‹_› ‹_› _))
     clear hK K
     (try clear F9)
     (try simp only[Act.put,fe7,ff1,ff2])
     refine D9 16 (by simp only[ff0,fe9,fe8]<;>rfl) (by kernel_rfl) (by exact fun _ _ _ h=>h) (by rfl) (by intro w hSw;(try dsimp only at hSw);go_simp;(try(with_reducible rfl))) ‹_› ?_
     (try simp only[Act.put,fe7,ff1,ff2])
     refine G9 (by kernel_rfl) ?_
     simp only[ff5,ff6]
     obtain⟨a',c',rfl,_,_⟩:=q1.form
     have hcB:=hc.below k2
     have h2:=(hcB.cell k).trans hv
     have h3:=hcB.fz k
     go_wp2
     go_ret
     have hlt:=hc.lt
     obtain⟨H',hC,hle',hs'⟩:=hcB.close q1 (fh1 hc.x.below.size (by simp)) (fun e=>by have h5:=(q1.lt O e).1;simp at h5;omega)
     rw[ff4,ff7]at hs'
     exact⟨rfl,_,H',hC.set k _,hle',hs'⟩
    exact r9.nil
   exact r9.nil
  refine r9.cons (by simp only[ff0,fe9,fe8]<;>rfl) (fun K hK=> ?_) ?_
  ·go_simp
   refine hK.out _ _ ?_ (fun F8=> ?_)
   ·(try dsimp only)
    (first|assumption|exact⟨by assumption,by assumption⟩|(go_split_ands;first|exact X3 ‹_› ‹_›|exact X4 ‹_› ‹_› _|exact X5 ‹_› ‹_› _))
   clear hK K
   (try clear I4)
   (try simp only[Act.put,fe7,ff1,ff2])
   refine u6 (rs:=[7]) (by kernel_rfl) (by kernel_rfl) ?_
   refine r9.cons (by simp only[ff0,fe9,fe8]<;>rfl) (fun K hK=> ?_) ?_
   ·go_simp
    refine hK.out _ _ ?_ (fun F9=> ?_)
    ·(try dsimp only)
     (first|assumption|exact⟨by assumption,by assumption⟩|(go_split_ands;first|exact X3 ‹_› ‹_›|exact X4 ‹_› ‹_› _|exact X5 ‹_› ‹_› _))
    clear hK K
    (try clear F8)
    (try simp only[Act.put,fe7,ff1,ff2])
    refine D9 12 (by simp only[ff0,fe9,fe8]<;>rfl) (by kernel_rfl) (by exact fun _ _ _ h=>h) (by rfl) (by intro w hSw;(try dsimp only at hSw);go_simp;(try(with_reducible rfl))) ‹_› ?_
    (try simp only[Act.put,fe7,ff1,ff2])
    refine u6 (rs:=[15]) (by kernel_rfl) (by kernel_rfl) ?_
    refine r9.cons (by simp only[ff0,fe9,fe8]<;>rfl) (fun K hK=> ?_) ?_
    ·(go_split_ands;refine ab0 ag8 rfl _ _ rfl rfl hs2 rfl ⟨rfl,hxx.out⟩ (one_cell (by simp[go_sem])) (j4.mono ‹_› al1) (by simp[Enc.M4];omega) (by omega) ?_;intro v' w' q1 q2 q3;have k1:j4 H1 w':=j4.grown ‹_› q2 (by simp);have k2:Below w.heap.size w w':=Below.grown ‹_› q2 (Below.size ‹_›) (by simp))
     refine hK.out _ _ ?_ (fun I7=> ?_)
     ·(try dsimp only)
      (first|assumption|exact⟨by assumption,by assumption⟩|(go_split_ands;first|exact X3 ‹_› ‹_›|exact X4 ‹_› ‹_› _|exact X5 ‹_› ‹_› _))
     clear hK K
     (try clear F9)
     (try simp only[Act.put,fe7,ff1,ff2])
     refine D9 16 (by simp only[ff0,fe9,fe8]<;>rfl) (by kernel_rfl) (by exact fun _ _ _ h=>h) (by rfl) (by intro w hSw;(try dsimp only at hSw);go_simp;(try(with_reducible rfl))) ‹_› ?_
     (try simp only[Act.put,fe7,ff1,ff2])
     refine G9 (by kernel_rfl) ?_
     simp only[ff5,ff6]
     obtain⟨a',c',rfl,_,_⟩:=q1.form
     have hcB:=hc.below k2
     have h2:=(hcB.cell k).trans hv
     have h3:=hcB.fz k
     go_wp2
     go_ret
     have hlt:=hc.lt
     obtain⟨H',hC,hle',hs'⟩:=hcB.close q1 (fh1 hc.x.below.size (by simp)) (fun e=>by have h5:=(q1.lt O e).1;simp at h5;omega)
     rw[ff4,ff7]at hs'
     exact⟨rfl,_,H',hC.set k _,hle',hs'⟩
    exact r9.nil
   exact r9.nil
  exact r9.nil
 exact r9.nil
end
section
def aq4 (l:List UInt8):Nat:=l.foldl (fun n b=>n*10+(b.toNat-48)) 0
theorem aP3 (l:List UInt8) (b:UInt8):aq4 (l++[b])=aq4 l*10+(b.toNat-48):=by unfold aq4;rw[List.foldl_append];rfl
theorem ah8 {b:UInt8}:W9 b=true↔48≤b.toNat∧b.toNat≤57:=by unfold W9;simp
theorem bU2 {d:Nat} (h:d<10):(UInt8.ofNat (48+d)).toNat=48+d:=by rw[UInt8.toNat_ofNat'];omega
theorem ad1 {α:Type} {p:List α→Prop} (h0:p []) (h1:∀l a,p l→p (l++[a])) (l:List α):p l:=by
 have key:∀r:List α,p r.reverse:=fun r=>by
  induction r with
  |nil=>exact h0
  |cons a r ih=>rw[List.reverse_cons];exact h1 _ _ ih
 have:=key l.reverse
 rwa [List.reverse_reverse]at this
theorem da7:∀l:List UInt8,l.all W9=true→aA4 l=(aq4 l:Int):=ad1 (fun _=>rfl) fun l b ih h=>by
 rw[List.all_append,fh9]at h
 have hb:W9 b=true:=by simpa using h.2
 have:=ah8.1 hb
 rw[aZ2,aP3,ih h.1]
 omega
theorem ak7 {u:Nat} (h:u<10):Lib.decDigits u=[UInt8.ofNat (48+u)]:=by rw[Lib.decDigits,dif_pos h]
theorem aI5 {u:Nat} (h:¬u<10):Lib.decDigits u=Lib.decDigits (u / 10)++[UInt8.ofNat (48+u%10)]:=by rw[Lib.decDigits,dif_neg h]
theorem aU5 (u:Nat):(Lib.decDigits u).all W9=true:=by
 induction u using Nat.strongRecOn with
 |_ u ih=>
  by_cases h:u<10
  ·rw[ak7 h];simp only[List.all_cons,List.all_nil,Bool.and_true];rw[ah8,bU2 h];omega
  ·rw[aI5 h,List.all_append,ih (u / 10) (by omega)]
   simp only[List.all_cons,List.all_nil,Bool.and_true,Bool.true_and]
   rw[ah8,bU2 (by omega)];omega
theorem bA1 (u:Nat):aq4 (Lib.decDigits u)=u:=by
 induction u using Nat.strongRecOn with
 |_ u ih=>
  by_cases h:u<10
  ·rw[ak7 h];show 0*10+((UInt8.ofNat (48+u)).toNat-48)=u;rw[bU2 h];omega
  ·rw[aI5 h,aP3,ih (u / 10) (by omega),bU2 (by omega)];omega
theorem bt7 (u:Nat):Lib.decDigits u≠[]:=by
 by_cases h:u<10
 ·rw[ak7 h];simp
 ·rw[aI5 h];simp
theorem cl9 (u:Nat) (h:1≤u):(Lib.decDigits u).head?≠some 48:=by
 induction u using Nat.strongRecOn with
 |_ u ih=>
  by_cases g:u<10
  ·rw[ak7 g]
   intro e
   have e2:UInt8.ofNat (48+u)=48:=Option.some.inj e
   have:=congrArg UInt8.toNat e2
   rw[bU2 g]at this
   have h48:(48:UInt8).toNat=48:=rfl
   omega
  ·rw[aI5 g]
   have:=ih (u / 10) (by omega) (by omega)
   cases hd:Lib.decDigits (u / 10)with
   |nil=>exact absurd hd (bt7 _)
   |cons a l=>rw[hd]at this;simpa using this
theorem cm0:∀l:List UInt8,l.all W9=true→l≠[]→l.head?≠some 48→1≤aq4 l:=ad1 (fun _ h=>absurd rfl h) fun l b ih h _ hh=>by
 rw[List.all_append,fh9]at h
 have hb:W9 b=true:=by simpa using h.2
 have hb2:=ah8.1 hb
 rw[aP3]
 cases l with
 |nil=>
  have:b.toNat≠48:=fun e=>hh (by show some b=some 48;rw[show b=48 from UInt8.toNat_inj.1 e])
  show 1≤0*10+_
  omega
 |cons a l=>
  have:=ih h.1 (by simp) (by simpa using hh)
  omega
theorem da8:∀l:List UInt8,l.all W9=true→l≠[]→(l.length=1∨l.head?≠some 48)→Lib.decDigits (aq4 l)=l:=ad1 (fun _ h=>absurd rfl h) fun l b ih h _ hh=>by
 rw[List.all_append,fh9]at h
 have hb:W9 b=true:=by simpa using h.2
 have hb2:=ah8.1 hb
 have hbe:UInt8.ofNat (48+(b.toNat-48))=b:=by
  apply UInt8.toNat_inj.1
  rw[bU2 (by omega)];omega
 rw[aP3]
 cases l with
 |nil=>
  show Lib.decDigits (0*10+(b.toNat-48))=[b]
  rw[Nat.zero_mul,Nat.zero_add,ak7 (by omega),hbe]
 |cons a l=>
  have hhd:(a::l).head?≠some 48:=by
   rcases hh with hh|hh
   ·simp at hh
   ·simpa using hh
  have hp:=cm0 (a::l) h.1 (by simp) hhd
  rw[aI5 (by omega),show((aq4 (a::l))*10+(b.toNat-48)) / 10=aq4 (a::l)by omega,show((aq4 (a::l))*10+(b.toNat-48))%10=b.toNat-48 by omega,hbe,ih h.1 (by simp) (.inr hhd)]
def ar2 (l:List UInt8):List UInt8:=match l with
 |45::r=>r
 |r=>r
theorem aB6 {l:List UInt8} {neg:Bool} {v:Int} (h:am9 l neg=some v):l.all W9=true∧l≠[]∧l.length≤6∧(l.length=1∨l.head?≠some 48)∧(neg=true→l.head?≠some 48)∧v=if neg then-(aq4 l:Int)else(aq4 l:Int):=by
 unfold am9 at h
 split at h
 ·cases h
 ·rename_i g
  split at h
  ·rename_i g2
   have e:=Option.some.inj h
   rw[da7 l g2]at e
   have g3:¬l.length<1∧¬6<l.length∧¬(l.head?=some 48∧(1<l.length∨neg=true)):=⟨fun h=>g (.inl h),fun h=>g (.inr (.inl h)),fun h=>g (.inr (.inr h))⟩
   refine⟨g2,fun e2=>by rw[e2]at g3;exact g3.1 (by decide),by omega, ?_,fun hn hh=>g3.2.2 ⟨hh,.inr hn⟩,e.symm⟩
   by_cases h1:l.length=1
   ·exact .inl h1
   ·exact .inr fun hh=>g3.2.2 ⟨hh,.inl (by omega)⟩
  ·cases h
theorem cF4 {l:List UInt8} {neg:Bool} (hd:l.all W9=true) (hn:l≠[]) (h6:l.length≤6) (h1:l.length=1∨l.head?≠some 48) (h2:neg=true→l.head?≠some 48):am9 l neg=some (if neg then-(aq4 l:Int)else(aq4 l:Int)):=by
 unfold am9
 have hl:1≤l.length:=List.length_pos_iff.2 hn
 rw[if_neg,if_pos hd,da7 l hd]
 rintro(h|h|⟨h,h3⟩)
 ·omega
 ·omega
 ·rcases h3 with h3|h3
  ·rcases h1 with h1|h1
   ·omega
   ·exact h1 h
  ·exact h2 h3 h
theorem cm1 {u:Nat}:(Lib.decDigits u).length=1∨(Lib.decDigits u).head?≠some 48:=by
 by_cases h:u<10
 ·rw[ak7 h];exact .inl rfl
 ·exact .inr (cl9 u (by omega))
theorem cm2 (u:Nat):(Lib.decDigits u).head?≠some 45:=fun e=>by
 cases hd:Lib.decDigits u with
 |nil=>exact absurd hd (bt7 u)
 |cons a l=>
  rw[hd]at e
  have:=List.all_eq_true.1 (aU5 u) a (by rw[hd];simp)
  have h2:=ah8.1 this
  have h3:a=45:=Option.some.inj e
  rw[h3]at h2
  have:(45:UInt8).toNat=45:=rfl
  omega
theorem dn8 {w:ByteArray} {v:Int} (h:O5 w=some v):C8 w=Lib.itoa v∧(ar2 (C8 w)).length≤6:=by
 unfold O5 at h
 unfold Lib.itoa ar2
 split at h
 ·rename_i r hr
  rw[hr]
  obtain⟨h1,h2,h3,h4,h5,h6⟩:=aB6 h
  have hp:=cm0 r h1 h2 (h5 rfl)
  have e:v= -(aq4 r:Int):=h6
  rw[if_pos (by omega),show v.natAbs=aq4 r by omega,da8 r h1 h2 h4]
  exact⟨rfl,h3⟩
 ·rename_i hno
  obtain⟨h1,h2,h3,h4,h5,h6⟩:=aB6 h
  have e:v=(aq4 (C8 w):Int):=h6
  rw[if_neg (by omega),show v.toNat=aq4 (C8 w)by omega,da8 _ h1 h2 h4]
  refine⟨rfl, ?_⟩
  split
  ·rename_i r hr;exact absurd hr (hno r)
  ·exact h3
theorem cm3 {w:ByteArray} {v:Int} (h:C8 w=Lib.itoa v) (h6:(ar2 (C8 w)).length≤6):O5 w=some v:=by
 unfold O5
 unfold Lib.itoa at h
 by_cases hv:v<0
 ·rw[if_pos hv]at h
  rw[h]at h6 ⊢
  have h5:(Lib.decDigits v.natAbs).length≤6:=h6
  show am9 (Lib.decDigits v.natAbs) true=some v
  rw[cF4 (aU5 _) (bt7 _) h5 cm1 (fun _=>cl9 _ (by omega)),bA1]
  show some (-((v.natAbs:Nat):Int))=some v
  congr 1
  omega
 ·rw[if_neg hv]at h
  have hne:=cm2 v.toNat
  rw[h]at h6 ⊢
  have key:∀l:List UInt8,l.head?≠some 45→ar2 l=l∧(match l with|45::r=>am9 r true|r=>am9 r false)=am9 l false:=fun l hl=>by
   unfold ar2
   split
   ·rename_i r;exact absurd rfl hl
   ·exact⟨rfl,rfl⟩
  obtain⟨k1,k2⟩:=key _ hne
  rw[k1]at h6
  have k3:am9 (Lib.decDigits v.toNat) false=some v:=by
   rw[cF4 (aU5 _) (bt7 _) h6 cm1 (fun h=>by cases h),bA1]
   show some ((v.toNat:Nat):Int)=some v
   congr 1
   omega
  exact k2.trans k3
end
section
theorem cf5 (o p:List (List UInt8)) (b:UInt8) (h:p≠[]):U7 (o++p) b=o++U7 p b:=by
 unfold U7
 split
 ·rw[List.append_assoc]
 ·rw[List.dropLast_append_of_ne_nil h,List.append_assoc]
  congr 2
  cases p with
  |nil=>exact absurd rfl h
  |cons a p=>
   congr 2
   rw[List.getLastD_eq_getLast?,List.getLastD_eq_getLast?,List.getLast?_append,List.getLast?_eq_some_getLast h]
   rfl
theorem cz0 (o:List (List UInt8)) (s:List UInt8):∀p:List (List UInt8),p≠[]→s.foldl U7 (o++p)=o++s.foldl U7 p:=by
 induction s with
 |nil=>intro p _;rfl
 |cons b s ih=>intro p h;rw[List.foldl_cons,List.foldl_cons,cf5 o p b h,ih _ (bs7 p b)]
theorem bi7 (a b:List UInt8):R9 (a++32::b)=R9 a++R9 b:=by
 unfold R9
 rw[List.foldl_append,List.foldl_cons]
 have e:U7 (a.foldl U7 [[]]) 32=a.foldl U7 [[]]++[[]]:=by unfold U7;rw[if_pos rfl]
 rw[e,cz0 _ _ [[]] (by simp)]
theorem aF1 {a:List UInt8} (h:∀b∈a,b≠32):R9 a=[a]:=by
 have key:∀r:List UInt8,(∀b∈r,b≠32)→R9 r.reverse=[r.reverse]:=fun r=>by
  induction r with
  |nil=>intro _;rfl
  |cons b r ih=>
   intro h
   rw[List.reverse_cons,ap3,ih fun x hx=>h x (by simp[hx])]
   unfold U7
   rw[if_neg (h b (by simp))]
   rfl
 have:=key a.reverse fun b hb=>h b (by simpa using hb)
 rwa [List.reverse_reverse]at this
end
section
def dN9 (p:List F7 × List F7) (x:F7):List F7 × List F7:=(p.1++[x],ak4 p.1 p.2 x)
def bi8 (l:List F7):List F7 × List F7:=l.foldl dN9 ([],[])
def aa4 (l:List F7):List F7:=(bi8 l).2
theorem ca1 (l:List F7) (x:F7):bi8 (l++[x])=dN9 (bi8 l) x:=by unfold bi8;rw[List.foldl_append];rfl
theorem dn9:∀l:List F7,(bi8 l).1=l:=ad1 rfl fun l x ih=>by rw[ca1];show(bi8 l).1++[x]=_;rw[ih]
theorem aD5 (l:List F7) (x:F7):aa4 (l++[x])=ak4 l (aa4 l) x:=by
 show(bi8 (l++[x])).2=_
 rw[ca1]
 show ak4 (bi8 l).1 (bi8 l).2 x=_
 rw[dn9];rfl
theorem bt8:∀l:List F7,(aa4 l).length=l.length:=ad1 rfl fun l x ih=>by rw[aD5,bC9,ih];simp
theorem aU6 (t:D5):∀l:List ByteArray,(M6 t l).written=l.map A8∧(M6 t l).now=aa4 (l.map A8):=ad1 ⟨rfl,rfl⟩ fun l s ih=>by
 rw[aP2,List.map_append,List.map_singleton,aD5]
 unfold bz9
 exact⟨by show(M6 t l).written++_=_;rw[ih.1],by show ak4 (M6 t l).written (M6 t l).now _=_;rw[ih.1,ih.2]⟩
def aZ9 (t:D5):List F7→List ByteArray
 |[]=>[]
 |x::l=>(if(M8 t x).2 then [x.text]else [])++aZ9 (M8 t x).1 l
theorem cz1 (x:F7) (now:List F7) (b:Bool) (h:List Bool) (k:Nat):bf0 (x::now) (b::h) (k+1)=(if b then [x.text]else [])++bf0 now h k:=by
 unfold bf0
 rw[List.range_succ_eq_map,List.filter_cons]
 have e:((List.map Nat.succ (List.range k)).filter fun i=>(b::h).getD i false)=((List.range k).filter fun i=>h.getD i false).map Nat.succ:=by
  rw[List.filter_map];rfl
 rw[e]
 cases b
 ·show List.map _ (List.map Nat.succ _)=_
  rw[List.map_map];rfl
 ·show List.map _ (0::List.map Nat.succ _)=_
  rw[List.map_cons,List.map_map];rfl
theorem do0 (t:D5) (now:List F7):bK9 t now=aZ9 t now:=by
 unfold bK9
 induction now generalizing t with
 |nil=>rfl
 |cons x l ih=>
  show bf0 (x::l) ((M8 t x).2::O3 (M8 t x).1 l) (l.length+1)=_
  rw[cz1,ih];rfl
theorem cz2 (t:D5) (l m:List F7):O3 t (l++m)=O3 t l++O3 (Z5 t l) m:=by
 induction l generalizing t with
 |nil=>rfl
 |cons x l ih=>show _::O3 _ (l++m)=_;rw[ih];rfl
theorem bi9 {t:D5} {x:F7} (h:x.kind≠1):M8 t x=(t,false):=by unfold M8;rw[if_neg h]
theorem aG4 {t:D5} (v:F6 t=true) (w:ByteArray) (a:List Int):F6 (changed t w a).1=true:=by
 unfold changed
 split
 ·split
  ·assumption
  ·exact v
 ·exact v
theorem cM5 {t:D5} (v:F6 t=true) (x:F7):F6 (M8 t x).1=true:=by
 unfold M8
 split
 ·exact aG4 v _ _
 ·exact v
theorem cm4 {t:D5} (v:F6 t=true) (l:List F7):F6 (Z5 t l)=true:=by
 induction l generalizing t with
 |nil=>exact v
 |cons x l ih=>exact ih (cM5 v x)
theorem db0 (t:D5) (l:List F7):(aZ9 t l).length≤l.length:=by
 induction l generalizing t with
 |nil=>exact fh0 _
 |cons x l ih=>
  have:=ih (M8 t x).1
  unfold aZ9
  rw[ff4,ff8]
  split<;>simp<;>omega
def joinL:List (List UInt8)→List UInt8
 |[]=>[]
 |[a]=>a
 |a::b::l=>a++32::joinL (b::l)
theorem aS8:∀(o:List (List UInt8)) (w:List UInt8),joinL (o++[w])=if o=[]then w else joinL o++32::w
 |[],w=>rfl
 |[a],w=>rfl
 |a::b::l,w=>by
  have ih:=aS8 (b::l) w
  show a++32::joinL (b::l++[w])=_
  rw[ih,if_neg (by simp),if_neg (by simp)]
  show _=(a++32::joinL (b::l))++32::w
  rw[List.append_assoc];rfl
theorem cm5 (l:List ByteArray):∀k,k≤l.length→ah6 l k=joinL ((l.take k).map C8)
 |0,_=>rfl
 |k+1,hk=>by
  have hl:k<l.length:=hk
  rw[aE8,cm5 l k (by omega),List.take_succ_eq_append_getElem hl,List.map_append,List.map_singleton,aS8]
  have e:l.getD k ⟨#[]⟩=l[k]:=by rw[ff3,fg0 hl];rfl
  rw[e]
  by_cases h0:k=0
  ·subst h0;rfl
  ·have hn:(l.take k).map C8≠[]:=fun h=>by
    have:=congrArg List.length h
    rw[fg5,fg6,fg1]at this
    omega
   rw[if_neg h0,if_neg hn]
   rfl
theorem aU7 (l:List ByteArray):J9 l=J8 (joinL (l.map C8)):=by
 unfold J9
 rw[cm5 l l.length (fh0 _),List.take_length]
theorem cz3:∀s:List UInt8,joinL (R9 s)=s:=ad1 rfl fun s b ih=>by
 rw[ap3]
 have hne:=aB3 s
 unfold U7
 split
 ·rename_i hb
  rw[aS8,if_neg hne,ih,hb]
 ·obtain⟨o,w,how⟩:∃o w,R9 s=o++[w]:=⟨(R9 s).dropLast,(R9 s).getLast hne,(List.dropLast_concat_getLast hne).symm⟩
  rw[how]at ih ⊢
  rw[List.dropLast_concat,List.getLastD_eq_getLast?,List.getLast?_concat]
  rw[aS8]at ih ⊢
  split
  ·rename_i h0;rw[if_pos h0]at ih;show w++[b]=_;rw[ih]
  ·rename_i h0
   rw[if_neg h0]at ih
   show joinL o++32::(w++[b])=_
   rw[←ih,List.append_assoc];rfl
theorem ay1 (s:ByteArray):J9 (C9 s)=s:=by
 rw[aU7]
 unfold C9
 rw[List.map_map,show(C8 ∘ J8)=id from funext fun _=>rfl,List.map_id,cz3]
 rfl
theorem bd6 (p:List ByteArray):(A7 p).kind=0∨(A7 p).kind=1∨(A7 p).kind=2:=by
 unfold A7
 split
 ·exact .inl rfl
 ·split
  ·exact .inr (.inl rfl)
  ·split
   ·exact .inr (.inr rfl)
   ·exact .inl rfl
theorem bd7 {p:List ByteArray} (h:(A7 p).kind=0):A7 p=E9:=by
 unfold A7 at*
 cases e:T9 p.tail with
 |none=>rfl
 |some ns=>
  rw[e]at h
  simp only at h ⊢
  split at h
  ·cases h
  ·rename_i h1
   split at h
   ·cases h
   ·rename_i h2;rw[if_neg h1,if_neg h2]
theorem av0 {p:List ByteArray} (h:(A7 p).kind≠0):(A7 p).text=J9 p∧(A7 p).of=0∧(A7 p).word=p.headD ⟨#[]⟩:=by
 unfold A7 at*
 cases e:T9 p.tail with
 |none=>rw[e]at h;exact absurd rfl h
 |some ns=>
  rw[e]at h
  simp only at h ⊢
  split at h
  ·rename_i h1;rw[if_pos h1];exact⟨rfl,rfl,rfl⟩
  ·rename_i h1
   split at h
   ·rename_i h2;rw[if_neg h1,if_pos h2];exact⟨rfl,rfl,rfl⟩
   ·exact absurd rfl h
theorem bd8 {p:List ByteArray} (h:(A7 p).kind≠0):ac8 p=A7 p:=by unfold ac8;rw[if_pos h]
theorem cM7 {p:List ByteArray} (h:(A7 p).kind=0):(ac8 p).kind=0∨(ac8 p).kind=3∨(ac8 p).kind=4∨(ac8 p).kind=5∨(ac8 p).kind=6:=by
 unfold ac8
 rw[if_neg (by rw[h];decide)]
 repeat' split
 all_goals first
  |exact .inl rfl
  |exact .inr (.inl rfl)
  |exact .inr (.inr (.inl rfl))
  |exact .inr (.inr (.inr (.inl rfl)))
  |exact .inr (.inr (.inr (.inr rfl)))
theorem bH4 {p:List ByteArray} (h:(ac8 p).kind=1∨(ac8 p).kind=2):ac8 p=A7 p:=by
 rcases bd6 p with h0|h0
 ·have:=cM7 h0;omega
 ·exact bd8 (by omega)
theorem ca2 {s:ByteArray} (h:(A8 s).kind=1∨(A8 s).kind=2):(A8 s).text=s∧(A8 s).of=0:=by
 have e:A8 s=A7 (C9 s):=bH4 h
 rw[e]at h ⊢
 obtain⟨h1,h2,_⟩:=av0 (p:=C9 s) (by omega)
 exact⟨by rw[h1,ay1],h2⟩
end
section
theorem aI6 (u:Nat):∀k,u<10 ^ (k+1)→(Lib.decDigits u).length≤k+1:=by
 induction u using Nat.strongRecOn with
 |_ u ih=>
  intro k h
  by_cases g:u<10
  ·rw[ak7 g];simp
  ·rw[aI5 g,ff4]
   cases k with
   |zero=>simp at h;omega
   |succ k=>
    have h2:u / 10<10 ^ (k+1):=by rw[Nat.pow_succ]at h;omega
    have h3:=ih (u / 10) (by omega) k h2
    simp only[ff8,fg1]
    omega
def ch3 (n:Int) (e:ByteArray):ByteArray:=J8 ([108,105,110,101,32]++C8 (G6 n)++[32,105,115,32]++C8 e)
theorem aN9 {p:List ByteArray} (h:T9 p.tail=none):A7 p=E9:=by unfold A7;rw[h]
def av1 (x:F7):F7:=if x.kind=5 then⟨1,0,x.word,x.text,x.nums⟩else E9
theorem dH1 {x:F7} {n:Int} (hk:x.kind=1) (ho:x.of=0):av1 {x with kind:=5,of:=n}=x:=by
 unfold av1
 cases x
 simp only at hk ho
 subst hk;subst ho
 rfl
theorem bo6 (now:List F7) (x:F7):ao6 now x=now.set x.of.toNat (av1 x):=rfl
theorem aI8 {t:D5} {l:List ByteArray} (v:F6 t=true) (h:l.length≤24):aJ8 t l=0:=by unfold aJ8;rw[if_pos v,if_neg (by omega)]
theorem aK0 {t:D5} {l:List ByteArray} (v:F6 t=true) (h:l.length≤24):V5 t l=Z5 t (aa4 (l.map A8)):=by unfold V5;rw[if_pos (aI8 v h),(aU6 t l).2]
theorem aS9 {t:D5} {l:List ByteArray} (v:F6 t=true) (h:l.length≤24):O0 t l=aZ9 t (aa4 (l.map A8)):=by unfold O0;rw[if_pos (aI8 v h),(aU6 t l).2,do0]
theorem ap6 {t:D5} {l:List ByteArray} (v:F6 t=true) (h:l.length≤24):Y1 t l=(M6 t l).ans:=by unfold Y1;rw[if_pos (aI8 v h)]
end
section
theorem dH3 {p:List ByteArray} (h:(ac8 p).kind=5):∃a b c e,p=a::b::c::e∧e≠[]∧(A7 e).kind=1∧ac8 p={A7 e with kind:=5,of:=(ac8 p).of}:=by
 have h0:(A7 p).kind=0:=by
  rcases bd6 p with h0|h0
  ·exact h0
  ·rw[bd8 (by omega)]at h;omega
 unfold ac8 at h ⊢
 rw[if_neg (by rw[h0];decide)]at h ⊢
 split at h
 ·rename_i w nw rest
  split at h
  ·cases h
  ·rename_i n hn
   simp only
   split at h
   ·split at h<;>cases h
   ·rename_i g1
    split at h
    ·split at h<;>cases h
    ·rename_i g2
     split at h
     ·rename_i g3
      split at h
      ·rename_i is e
       split at h
       ·cases h
       ·rename_i g4
        split at h
        ·cases h
        ·rename_i g5
         split at h
         ·rename_i g6
          refine⟨w,nw,is,e,rfl,fun he=>g4 (.inl he),g6, ?_⟩
          rw[if_neg g1,if_neg g2,if_pos g3,if_neg g4,if_neg g5,if_pos g6]
         ·cases h
      ·cases h
     ·cases h
 ·cases h
theorem db7 {x:F7} (h:x.kind=5):av1 x=⟨1,0,x.word,x.text,x.nums⟩:=by unfold av1;rw[if_pos h]
theorem bU3 {x:F7} (h:x.kind≠5):av1 x=E9:=by unfold av1;rw[if_neg h]
theorem ca3 {s:ByteArray} (h:(A8 s).kind=5):∃a b c e,C9 s=a::b::c::e∧e≠[]∧(A7 e).kind=1∧av1 (A8 s)=A7 e:=by
 obtain⟨a,b,c,e,h1,h2,h3,h4⟩:=dH3 (p:=C9 s) h
 refine⟨a,b,c,e,h1,h2,h3, ?_⟩
 have h5:A8 s={A7 e with kind:=5,of:=(ac8 (C9 s)).of}:=h4
 have ho:=(av0 (p:=e) (by omega)).2.1
 rw[db7 h,h5]
 generalize A7 e=z at h3 ho ⊢
 obtain⟨k,o,w,t,ns⟩:=z
 simp only at h3 ho ⊢
 rw[h3,ho]
theorem cF5 {p:F7→Prop} {l:List F7} (h0:p E9) (h1:∀x∈l,x.kind=1→p x) (h2:∀x∈l,p (av1 x)):∀x∈aa4 l,p x:=by
 revert h1 h2
 refine ad1 (p:=fun l=>(∀x∈l,x.kind=1→p x)→(∀x∈l,p (av1 x))→∀x∈aa4 l,p x) (fun _ _ x hx=>by cases hx) (fun l y ih h1 h2=> ?_) l
 have ih2:=ih (fun x hx=>h1 x (by simp[hx])) (fun x hx=>h2 x (by simp[hx]))
 intro x hx
 rw[aD5]at hx
 unfold ak4 at hx
 split at hx
 ·rename_i hk
  rcases List.mem_append.1 hx with hx|hx
  ·exact ih2 x hx
  ·have:x=y:=by simpa using hx
   subst this;exact h1 x (by simp) hk
 ·split at hx
  ·rcases List.mem_append.1 hx with hx|hx
   ·rw[bo6]at hx
    rcases List.mem_or_eq_of_mem_set hx with hx|rfl
    ·exact ih2 x hx
    ·exact h2 y (by simp)
   ·have:x=E9:=by simpa using hx
    subst this;exact h0
  ·rcases List.mem_append.1 hx with hx|hx
   ·exact ih2 x hx
   ·have:x=E9:=by simpa using hx
    subst this;exact h0
theorem bj1 (t:D5) (l:List ByteArray) (s:ByteArray):(M6 t (l++[s])).ans=(M6 t l).ans++[ap9 t (l.map A8) (aa4 (l.map A8)) (A8 s)]:=by
 rw[aP2]
 unfold bz9
 rw[(aU6 t l).1,(aU6 t l).2]
def aT0 (x:F7):Bool:=decide (x.word=Z0)
theorem cN1 (a:List UInt8) (l:List (List UInt8)):(joinL l).length≤(joinL (a::l)).length:=by
 cases l with
 |nil=>exact fh3 _
 |cons b l=>show _≤(a++32::joinL (b::l)).length;rw[ff4,ff8];omega
theorem N7 (a:ByteArray) (l:List ByteArray):(J9 l).size≤(J9 (a::l)).size:=by
 rw[aU7,aU7]
 exact cN1 (C8 a) (l.map C8)
theorem do5 (s:ByteArray):(av1 (A8 s)).text.size≤s.size:=by
 by_cases h:(A8 s).kind=5
 ·obtain⟨a,b,c,e,h1,h2,h3,h4⟩:=ca3 h
  rw[h4,(av0 (p:=e) (by omega)).1]
  have h5:=ay1 s
  rw[h1]at h5
  rw[←h5]
  exact fh1 (N7 c e) (fh1 (N7 b _) (N7 a _))
 ·rw[bU3 h];exact fh3 _
theorem bH5 {l:List ByteArray} {n:Nat} (h:∀s∈l,s.size≤n):∀x∈aa4 (l.map A8),x.text.size≤n:=cF5 (fh3 _) (fun x hx hk=>by
 obtain⟨s,hs,rfl⟩:=List.mem_map.1 hx
 rw[(ca2 (.inl hk)).1];exact h s hs) fun x hx=>by
 obtain⟨s,hs,rfl⟩:=List.mem_map.1 hx
 exact fh1 (do5 s) (h s hs)
def aK1 (l:List ByteArray):Nat:=(l.map A8).countP aT0
end
section
theorem bE0:∀(l:List UInt8) (acc:Nat),l.all W9=true→Lib.decFrom acc l=some (l.foldl (fun n b=>n*10+(b.toNat-48)) acc)
 |[],_,_=>rfl
 |b::l,acc,h=>by
  rw[List.all_cons,fh9]at h
  have hb:=ah8.1 h.1
  unfold Lib.decFrom Lib.digitVal
  rw[if_pos hb]
  exact bE0 l _ h.2
theorem bL5 {l:List UInt8} (h:l.all W9=true) (hn:l≠[]):Lib.decNat l=some (aq4 l):=by
 unfold Lib.decNat
 have:l.isEmpty=false:=by cases l with|nil=>exact absurd rfl hn|cons a l=>rfl
 rw[this]
 exact bE0 l 0 h
theorem do9 {w:ByteArray} {v:Int} (h:O5 w=some v):Lib.atoiAll (C8 w)= .ok v∧K8 v∧(C8 w).length≤7:=by
 have key:Lib.atoi (C8 w)=some v∧(C8 w).length≤7:=by
  unfold O5 at h
  split at h
  ·rename_i r hr
   obtain⟨h1,h2,h3,h4,h5,h6⟩:=aB6 h
   rw[hr]
   refine⟨?_,by rw[ff8];omega⟩
   show(Lib.decNat r).map _=_
   rw[bL5 h1 h2]
   exact congrArg some h6.symm
  ·rename_i hno
   obtain⟨h1,h2,h3,h4,h5,h6⟩:=aB6 h
   refine⟨?_,by omega⟩
   cases hb:C8 w with
   |nil=>exact absurd hb h2
   |cons b r=>
    have e45:(b==45)=false:=by rw[beq_eq_false_iff_ne];intro e;rw[e]at hb;exact hno r hb
    have e43:(b==43)=false:=by
     rw[beq_eq_false_iff_ne]
     intro e
     rw[hb,e,List.all_cons]at h1
     have:W9 43=false:=by decide
     rw[this]at h1;cases h1
    unfold Lib.atoi
    simp only[e45,e43,Bool.false_eq_true,if_false]
    rw[←hb,bL5 h1 h2]
    exact congrArg some h6.symm
 have hs:=Lib.atoiAll_short (C8 w) (by omega)
 rw[key.1]at hs
 have hb:=Lib.atoi_bound key.1 (by omega)
 exact⟨hs,⟨by omega,by omega⟩,key.2⟩
theorem cN4 (l:List UInt8):Lib.trimPrefix l [45]=ar2 l:=by
 unfold Lib.trimPrefix ar2
 cases l with
 |nil=>rfl
 |cons b r=>
  by_cases h:b=45
  ·subst h;rfl
  ·have:Lib.hasPrefix (b::r) [45]=false:=by
    cases hh:Lib.hasPrefix (b::r) [45]with
    |false=>rfl
    |true=>
     exfalso
     simp[Lib.hasPrefix]at hh
     first|exact h hh.symm|exact h hh
   rw[this]
   simp only[Bool.false_eq_true,if_false]
   split
   ·rename_i h2;exact absurd (List.cons.inj h2).1 h
   ·rfl
inductive dO1 (w:ByteArray):Prop
 |num (v:Int) (h:O5 w=some v) (ha:Lib.atoiAll (C8 w)= .ok v) (hi:K8 v) (ht:G6 v=w) (h6:(ar2 (C8 w)).length≤6)
 |syn (h:O5 w=none)(ha:atoiAll (C8 w)=NumEnd.syntax)
 |rng (h:O5 w=none) (ha:Lib.atoiAll (C8 w)= .range)
 |oth (v:Int) (h:O5 w=none) (ha:Lib.atoiAll (C8 w)= .ok v) (hi:K8 v) (ht:G6 v≠w)
 |lng (v:Int) (h:O5 w=none) (ha:Lib.atoiAll (C8 w)= .ok v) (hi:K8 v) (ht:G6 v=w) (h6:6<(ar2 (C8 w)).length)
theorem dH8 (w:ByteArray):dO1 w:=by
 cases h:O5 w with
 |some v=>
  obtain⟨h1,h2,_⟩:=do9 h
  obtain⟨h3,h4⟩:=dn8 h
  exact .num v h h1 h2 (by unfold G6;rw[←h3];rfl) h4
 |none=>
  cases ha:Lib.atoiAll (C8 w)with
  |range=>exact .rng h ha
  |ok v=>
   have hb:=Lib.atoiAll_bounds ha
   have hi:K8 v:=⟨by omega,by omega⟩
   by_cases ht:G6 v=w
   ·by_cases h6:(ar2 (C8 w)).length≤6
    ·have hbw:C8 w=Lib.itoa v:=by rw[←ht];rfl
     rw[cm3 hbw h6]at h;cases h
    ·exact .lng v h ha hi ht (by omega)
   ·exact .oth v h ha hi ht
  |_=>      exact .syn h ha
theorem bL6:∀(l:List ByteArray) (w:ByteArray),T9 (l++[w])=match T9 l,O5 w with|some ns,some n=>some (ns++[n])|_,_=>none
 |[],w=>by
  show(match O5 w,some []with|some n,some r=>some (n::r)|_,_=>none)=_
  cases O5 w<;>rfl
 |x::l,w=>by
  show(match O5 x,T9 (l++[w])with|some n,some r=>some (n::r)|_,_=>none)=_
  rw[bL6 l w]
  show _=match (match O5 x,T9 l with|some n,some r=>some (n::r)|_,_=>none),O5 w with|some ns,some n=>some (ns++[n])|_,_=>none
  cases O5 x<;>cases T9 l<;>cases O5 w<;>rfl
theorem aP5 {l:List ByteArray} {k:Nat} {w:ByteArray} (hw:At l k w) (h:O5 w=none):T9 l=none:=by
 have hm:=hw.mem
 clear hw
 induction l with
 |nil=>cases hm
 |cons x l ih=>
  show(match O5 x,T9 l with|some n,some r=>some (n::r)|_,_=>none)=none
  rcases List.mem_cons.1 hm with rfl|hm
  ·rw[h]
  ·rw[ih hm];cases O5 x<;>rfl
theorem bL7 {l:List ByteArray} {k:Nat} {w:ByteArray} {ns:List Int} {v:Int} (hw:At l k w) (hn:T9 (l.take k)=some ns) (h:O5 w=some v):T9 (l.take (k+1))=some (ns++[v]):=by
 rw[hw.take,bL6,hn,h]
theorem ax2:∀{l:List ByteArray} {ns:List Int},T9 l=some ns→(∀n∈ns,K8 n∧-1000000<n∧n<1000000)∧ns.length=l.length
 |[],ns,h=>by cases h;exact⟨fun n hn=>(by cases hn),rfl⟩
 |x::l,ns,h=>by
  have h2:(match O5 x,T9 l with|some n,some r=>some (n::r)|_,_=>none)=some ns:=h
  split at h2
  ·rename_i n r h3 h4
   cases h2
   obtain⟨k1,k2⟩:=ax2 h4
   refine⟨fun m hm=> ?_,by rw[ff8,ff8,k2]⟩
   rcases List.mem_cons.1 hm with rfl|hm
   ·have hv: -1000000<m∧m<1000000:=by
     have hval:∀r:List UInt8,r.all W9=true→r.length≤6→aq4 r<1000000:=fun r hr hl=>by
      have key:∀q:List UInt8,q.all W9=true→aq4 q<10 ^ q.length:=ad1 (fun _=>by decide) fun q b ih hq=>by
       rw[List.all_append,fh9]at hq
       have hb:=ah8.1 (by simpa using hq.2:W9 b=true)
       have:=ih hq.1
       rw[aP3,ff4,ff7,Nat.pow_succ]
       omega
      exact fh4 (key r hr) (Nat.pow_le_pow_right (by decide) hl)
     unfold O5 at h3
     split at h3
     ·obtain⟨g1,_,g3,_,_,g6⟩:=aB6 h3
      have:=hval _ g1 g3
      have e:m= -(aq4 _:Int):=g6
      omega
     ·obtain⟨g1,_,g3,_,_,g6⟩:=aB6 h3
      have:=hval _ g1 g3
      have e:m=(aq4 _:Int):=g6
      omega
    exact⟨⟨by omega,by omega⟩,hv⟩
   ·exact k1 m hm
  ·cases h2
end
end Go.Proofs.YtbliehinagkldaaGreatDoor
