/- Arguments that came in, as lists: slices of whole numbers. -/
import Derived.Test.YtimlgcodecgecaaGreatDoorZ28
import Derived.SliceStrings
set_option maxRecDepth 100000
set_option maxHeartbeats 20000000
set_option linter.all false
namespace Go.Proofs.YtimlgcodecgecaaGreatDoor
open Go.ChangeShapes Go.WideShapes Go.Deep Go.RowKit
theorem zpy{w:World}{a:Addr}{v:Value}(f:w.cell? (a.add 0)=some v):∃b c,a=⟨b,c,none⟩/\b<w.heap.size:=by
 have d:w.cell? a=some v:=by simpa[Addr.add] using f
 obtain⟨b,c,e⟩:=a;have g:e=none:=World.cell?_spot d;subst g;exact⟨b,c,rfl,World.block_lt_of_cell? w _ d⟩
theorem zpz {H:Type}{enc:TypeId×Value->H}{w:World}{base:Nat}{B:Nat->Bool}{y:Bool}{D:Nat}{t e:TypeId}{k:IntKind}{a:Option Addr}{f cap:Nat}{x:DataW H×List MemPlace}
 (s:Tryz.prog.underlying t=some (.slice e)) (F:Tryz.prog.underlying e=some (.int k)) (g:Tryz.prog.cellsOf e=1) (z:DataW.trod enc Tryz.prog w base B y D t (Value.slice a f cap).cells.toList=some x):
 ∃d:List Int,ze0 1 (fun E=> [.int k E]) w (.slice a f cap) d/\∀b∈d,(Lit.int k b).wf=true:=by
 rcases open_ints s F g z with⟨c,_⟩|⟨L,K,I,d,c,_,J,q,v,_,n,r⟩
 ·simp[Value.cells] at c;obtain⟨rfl,rfl,rfl⟩:=c;exact⟨[],⟨none,0,rfl,oh,oh⟩,oh⟩
 ·simp[Value.cells] at c;obtain⟨rfl,rfl,rfl⟩:=c;have i:f<=d.length:=by rw[v];split<;> omega
  refine⟨d.take f,⟨_,cap,by rw[yn,zbG i],?_,fun l b h=> ?_⟩,fun b A=>r b (zdX A)⟩
  ·rw[yn,zbG i];unfold maxLen at q;omega
  ·have o:l<f:=(by have:=(zw.1 h).1;rw[yn] at this;omega);have g:=n l oa;obtain⟨C,u,rfl,p⟩:=zpy (n 0 oa);rw[zdY o] at h;refine⟨C,u,rfl,p,fun j G m=> ?_⟩;cases j with
   |zero=>
    obtain rfl:Value.int k b=G:=(by simpa using m);rw[qW] at g;rw[zbh,jD,g];simp[List.getD,h]
   |succ j=>simp at m
theorem zp0{w:zC}{v:zJ}{k:IntKind}{c:List Int}(j:ze0 1 (fun n:Int=> [.int k n]) w v c)(g:∀a∈c,0<=a):ze0 1 (fun n:Nat=> [.int k (n:Int)]) w v (c.map Int.toNat):=by obtain⟨s,t,rfl,p,f⟩:=j;refine⟨s,t,by rw[xk],by rw[xk];exact p,fun o x d=> ?_⟩;rw[qw] at d;obtain⟨a,e,rfl⟩:=zjL.1 d;obtain⟨q,i,r,h,l⟩:=f o a e;refine⟨q,i,r,h,fun b u m=>l b u ?_⟩;rw[<-m];show([Value.int k a])[b]?=([Value.int k ((a.toNat:Nat):Int)])[b]?;rw[zjM (g a (xn e))]
end Go.Proofs.YtimlgcodecgecaaGreatDoor
