/- Part 8 of the proof of lawSpec.card: OrdAt, Fair, Allot, Ways, OrdPlain, OrdWay. Conditions: those of each theorem. -/
import Derived.Lib.Hide
import Derived.Test.YtanhhdndgkhcfaaGreatDoorSp01
import Derived.Test.YtanhhdndgkhcfaaGreatDoorSp07
namespace Go.Proofs.YtanhhdndgkhcfaaGreatDoor
open Go Go.Proofs Go.RowKit
def Same (N:Nat) (A B:World):Prop:=∀k,k < N->B.heap[k]? = A.heap[k]?
theorem Same.cell{N:Nat} {A B:World} (h:Same N A B) {b o:Nat} (hb:b < N):B.cell? ⟨b,o,none⟩=A.cell? ⟨b,o,none⟩:=World.cell?_of_block (w:=A) (a:=⟨b,o,none⟩) (h b hb)
theorem Same.trans{N:Nat} {A B C:World} (h:Same N A B) (k:Same N B C):Same N A C:=fun i hi=>(k i hi).trans (h i hi)
theorem Turned.same{C:Nat->Prop} {A B:World} (h:Turned C A B) {N:Nat} (hN:N<=A.heap.size) (hC:∀k,k < N->¬C k):Same N A B:=fun k hk=>h.block k (by omega) (hC k hk)
structure At {α:Type} (N:Nat) (W:World) (s:Nat) (enc:α->List Value) (l:List α) (p:Option Addr) (c:Nat):Prop where
 cap:l.length<=c
 mx:c<=maxLen
 cel:∀(i:Nat) (x:α),l[i]? = some x->∃b a,p=some ⟨b,a,none⟩/\b < N/\∀j v,(enc x)[j]? = some v->W.cell? ⟨b,a+(i*s+j),none⟩=some v
section
variable {α:Type} {N M s c:Nat} {W W':World} {enc:α->List Value} {l:List α} {p:Option Addr}
theorem At.same(h:At N W s enc l p c) (hs:Same N W W'):At N W' s enc l p c :=
 ⟨h.cap,h.mx,fun i x hx=>by
  obtain⟨b,a,h1,h2,h3⟩:=h.cel i x hx;exact⟨b,a,h1,h2,fun j v hv=>(hs.cell h2).trans (h3 j v hv)⟩⟩
theorem At.mono(h:At N W s enc l p c) (hm:N<=M):At M W s enc l p c :=
 ⟨h.cap,h.mx,fun i x hx=>by
  obtain⟨b,a,h1,h2,h3⟩:=h.cel i x hx;exact⟨b,a,h1,by omega,h3⟩⟩
theorem At.turned(h:At N W s enc l p c) (ht:Turned (fun _=>False) W W'):At N W' s enc l p c :=
 ⟨h.cap,h.mx,fun i x hx=>by
  obtain⟨b,a,h1,h2,h3⟩:=h.cel i x hx;exact⟨b,a,h1,h2,fun j v hv=>cellT ht id (h3 j v hv)⟩⟩
theorem At.nil(N:Nat) (W:World) (s:Nat) (enc:α->List Value):At N W s enc [] none 0:=⟨Nat.le_refl _,Nat.zero_le _,fun i x h=>by simp at h⟩
theorem At.empty(N:Nat) (W:World) (s:Nat) (enc:α->List Value) (p:Option Addr) {c:Nat} (hc:c<=maxLen):At N W s enc [] p c:=⟨Nat.zero_le _,hc,fun i x h=>by simp at h⟩
theorem At.len(h:At N W s enc l p c):l.length<=maxLen:=Nat.le_trans h.cap h.mx
end
abbrev intCells (x:Int):List Value:=[(.int .i64 x)]
abbrev ratCells (u:Rv):List Value:=[.bool u.neg,.string u.num,.string u.den]
abbrev boolCells (x:Bool):List Value:=[.bool x]
structure Cl where
 place:Int
 rank:Int
 amt:Rv
abbrev claimCells (x:Cl):List Value:=[(.int .i64 x.place),.int .i64 x.rank,.bool x.amt.neg,.string x.amt.num,.string x.amt.den]
structure Or where
 claim:Int
 limit:Rv
abbrev orderCells (x:Or):List Value:=[(.int .i64 x.claim),.bool x.limit.neg,.string x.limit.num,.string x.limit.den]
structure Rc where
 down:Int
 ws:List Int
 wp:Option Addr
 wc:Nat
abbrev reachCells (x:Rc):List Value:=[(.int .i64 x.down),.slice x.wp x.ws.length x.wc]
structure RivAt (N:Nat) (W:World) (l:List Rc) (p:Option Addr) (c:Nat):Prop where
 at_:At N W 2 reachCells l p c
 ws:∀x∈l,At N W 1 intCells x.ws x.wp x.wc
section
variable {N M c:Nat} {W W':World} {l:List Rc} {p:Option Addr}
theorem RivAt.same(h:RivAt N W l p c) (hs:Same N W W'):RivAt N W' l p c:=⟨h.at_.same hs,fun x hx=>(h.ws x hx).same hs⟩
theorem RivAt.mono(h:RivAt N W l p c) (hm:N<=M):RivAt M W l p c:=⟨h.at_.mono hm,fun x hx=>(h.ws x hx).mono hm⟩
theorem RivAt.turned(h:RivAt N W l p c) (ht:Turned (fun _=>False) W W'):RivAt N W' l p c:=⟨h.at_.turned ht,fun x hx=>(h.ws x hx).turned ht⟩
end
section
variable {α:Type} {N s c:Nat} {W:World} {enc:α->List Value} {l:List α} {p:Option Addr}
theorem At.ints{l:List Int} (h:At N W 1 intCells l p c) {i:Nat} {x:Int} (hi:l[i]? = some x):∃b a,p=some ⟨b,a,none⟩/\b < N/\W.cell? ⟨b,a+i,none⟩=some (.int .i64 x):=by
 obtain⟨b,a,h1,h2,h3⟩:=h.cel i x hi;exact⟨b,a,h1,h2,by have:=h3 0 _ rfl;simpa using this⟩
theorem At.bools{l:List Bool} (h:At N W 1 boolCells l p c) {i:Nat} {x:Bool} (hi:l[i]? = some x):∃b a,p=some ⟨b,a,none⟩/\b < N/\W.cell? ⟨b,a+i,none⟩=some (.bool x):=by
 obtain⟨b,a,h1,h2,h3⟩:=h.cel i x hi;exact⟨b,a,h1,h2,by have:=h3 0 _ rfl;simpa using this⟩
theorem At.rats{l:List Rv} (h:At N W 3 ratCells l p c) {i:Nat} {u:Rv} (hi:l[i]? = some u):∃b a,p=some ⟨b,a,none⟩/\b < N/\W.cell? ⟨b,a+i*3,none⟩=some (.bool u.neg)/\W.cell? ⟨b,a+i*3+1,none⟩=some (.string u.num)/\W.cell? ⟨b,a+i*3+2,none⟩=some (.string u.den):=by
 obtain⟨b,a,h1,h2,h3⟩:=h.cel i u hi;exact⟨b,a,h1,h2,h3 0 _ rfl,h3 1 _ rfl,h3 2 _ rfl⟩
theorem At.claims{l:List Cl} (h:At N W 5 claimCells l p c) {i:Nat} {u:Cl} (hi:l[i]? = some u):∃b a,p=some ⟨b,a,none⟩/\b < N/\W.cell? ⟨b,a+i*5,none⟩=some (.int .i64 u.place)/\W.cell? ⟨b,a+i*5+1,none⟩=some (.int .i64 u.rank) /\
  W.cell? ⟨b,a+i*5+2,none⟩=some (.bool u.amt.neg)/\W.cell? ⟨b,a+i*5+3,none⟩=some (.string u.amt.num)/\W.cell? ⟨b,a+i*5+4,none⟩=some (.string u.amt.den):=by
 obtain⟨b,a,h1,h2,h3⟩:=h.cel i u hi;exact⟨b,a,h1,h2,h3 0 _ rfl,h3 1 _ rfl,h3 2 _ rfl,h3 3 _ rfl,h3 4 _ rfl⟩
theorem At.orders{l:List Or} (h:At N W 4 orderCells l p c) {i:Nat} {u:Or} (hi:l[i]? = some u):∃b a,p=some ⟨b,a,none⟩/\b < N/\W.cell? ⟨b,a+i*4,none⟩=some (.int .i64 u.claim) /\
  W.cell? ⟨b,a+i*4+1,none⟩=some (.bool u.limit.neg)/\W.cell? ⟨b,a+i*4+2,none⟩=some (.string u.limit.num)/\W.cell? ⟨b,a+i*4+3,none⟩=some (.string u.limit.den):=by
 obtain⟨b,a,h1,h2,h3⟩:=h.cel i u hi;exact⟨b,a,h1,h2,h3 0 _ rfl,h3 1 _ rfl,h3 2 _ rfl,h3 3 _ rfl⟩
theorem At.reaches{l:List Rc} (h:At N W 2 reachCells l p c) {i:Nat} {u:Rc} (hi:l[i]? = some u):∃b a,p=some ⟨b,a,none⟩/\b < N/\W.cell? ⟨b,a+i*2,none⟩=some (.int .i64 u.down)/\W.cell? ⟨b,a+i*2+1,none⟩=some (.slice u.wp u.ws.length u.wc):=by
 obtain⟨b,a,h1,h2,h3⟩:=h.cel i u hi;exact⟨b,a,h1,h2,h3 0 _ rfl,h3 1 _ rfl⟩
end
def OwnR (W:World) (g:Nat) (l:List Rv):Prop:=W.heap[g]? = some (.cells (l.flatMap ratCells).toArray 68 (0,0))
theorem infoRat:(Tryz.prog.info? 68).map (fun i=>(i.zero,i.size,i.bytes))=some (some (ratV zeroR),3,40):=by kernel_rfl
theorem flat_len{α:Type} (enc:α->List Value) (s:Nat) (henc:∀x,(enc x).length=s) (l:List α):(l.flatMap enc).length=l.length*s:=by
 induction l with
 | nil=>simp
 | cons x l ih=>rw[List.flatMap_cons,List.length_append,henc,ih,List.length_cons,Nat.add_mul];omega
theorem flat_set{α:Type} (enc:α->List Value) (s:Nat) (henc:∀x,(enc x).length=s):∀(l:List α) (i j:Nat),j < s->i < l.length->∀x,(l.set i x).flatMap enc=(l.flatMap enc).take (i*s)++enc x++(l.flatMap enc).drop (i*s+s)
 | [],i,j,_,hi,_=>by simp at hi
 | y::l,0,j,_,_,x=>by
  have h1:=henc y;simp[List.flatMap_cons,<- h1]
 | y::l,i+1,j,hj,hi,x=>by
  have h1:=henc y;rw[zz5,List.flatMap_cons,List.flatMap_cons,flat_set enc s henc l i j hj (by simpa using hi) x]
  have e:(i+1)*s=s+i*s:=by rw[Nat.add_mul];omega
  rw[e,Nat.add_assoc,<- h1,List.take_length_add_append,List.drop_length_add_append];simp[List.append_assoc]
section
variable {W W':World} {g:Nat} {l:List Rv}
theorem OwnR.lt(h:OwnR W g l):g < W.heap.size:=getElem?_lt h
theorem OwnR.made(W:World) (n:Nat):OwnR (W.alloc (.cells (madeCells #[.bool false,.string ⟨#[]⟩,.string ⟨#[]⟩] (n*3)) 68)) W.heap.size (List.replicate n zeroR):=by
 have e:madeCells #[.bool false,.string ⟨#[]⟩,.string ⟨#[]⟩] (n*3)=((List.replicate n zeroR).flatMap ratCells).toArray:=by
  apply Array.ext
  ·rw[size_madeCells,List.size_toArray,flat_len ratCells 3 (fun _=>rfl),List.length_replicate]
  ·intro i h1 h2;rw[size_madeCells] at h1;have hd:i=i / 3*3+i % 3:=by omega
   have hm:i % 3 < 3:=Nat.mod_lt _ (by decide)
   have h3:=flatMap_at ratCells 3 (fun _=>rfl) (List.replicate n zeroR) (i / 3) (i % 3) (by rw[List.length_replicate];omega) hm
   rw[<- hd,List.getElem_replicate] at h3;have h4:((List.replicate n zeroR).flatMap ratCells)[i]? = some (((List.replicate n zeroR).flatMap ratCells)[i]'(by simpa using h2)):=List.getElem?_eq_getElem _
   rw[h4] at h3;simp only[zz0];have h5:(madeCells #[Value.bool false,.string ⟨#[]⟩,.string ⟨#[]⟩] (n*3))[i]'(by rw[size_madeCells];exact h1)=(#[Value.bool false,.string ⟨#[]⟩,.string ⟨#[]⟩]:Array Value)[i % 3]!:=by simp[madeCells]
   rw[h5];generalize i % 3=j at h3 hm
   match j,hm with
   | 0,_=>exact(Option.some.inj h3).symm
   | 1,_=>exact(Option.some.inj h3).symm
   | 2,_=>exact(Option.some.inj h3).symm
 unfold OwnR;rw[World.alloc_heap_new,e]
theorem OwnR.cells(h:OwnR W g l) {i:Nat} {u:Rv} (hi:l[i]? = some u):W.cell? ⟨g,i*3,none⟩=some (.bool u.neg)/\W.cell? ⟨g,i*3+1,none⟩=some (.string u.num)/\W.cell? ⟨g,i*3+2,none⟩=some (.string u.den):=by
 obtain⟨hlt,hu⟩:=List.getElem?_eq_some_iff.1 hi;have h3:∀j v,(ratCells u)[j]? = some v->W.cell? ⟨g,i*3+j,none⟩=some v:=fun j v hj=>by
  have hj3:j < 3:=by have:=(List.getElem?_eq_some_iff.1 hj).1;simpa using this
  have:=flatMap_at ratCells 3 (fun _=>rfl) l i j hlt hj3
  rw[hu,hj] at this;simp only[World.cell?,show W.heap[g]? = _ from h];simpa using this
 exact⟨h3 0 _ rfl,h3 1 _ rfl,h3 2 _ rfl⟩
theorem OwnR.free(h:OwnR W g l) (o:Nat):W.frozen? ⟨g,o,none⟩=false:=by simp[World.frozen?,show W.heap[g]? = _ from h]
theorem OwnR.turned(h:OwnR W g l) {C:Nat->Prop} (ht:Turned C W W') (hC:¬C g):OwnR W' g l:=(ht.block g h.lt hC).trans h
theorem OwnR.set(h:OwnR W g l) {i:Nat} (hi:i < l.length) (u:Rv):OwnR (((W.setCell ⟨g,i*3,none⟩ (.bool u.neg)).setCell ⟨g,i*3+1,none⟩ (.string u.num)).setCell ⟨g,i*3+2,none⟩ (.string u.den)) g (l.set i u) /\
  Turned (fun k=>k=g) W (((W.setCell ⟨g,i*3,none⟩ (.bool u.neg)).setCell ⟨g,i*3+1,none⟩ (.string u.num)).setCell ⟨g,i*3+2,none⟩ (.string u.den)):=by
 refine⟨?_,((((Turned.refl (fun k=>k=g) W).setCell (p:=⟨g,i*3,none⟩) rfl _).setCell (p:=⟨g,i*3+1,none⟩) rfl _).setCell (p:=⟨g,i*3+2,none⟩) rfl _)⟩
 unfold OwnR;rw[set_block (set_block (set_block h (i*3) (.bool u.neg)) (i*3+1) (.string u.num)) (i*3+2) (.string u.den)]
 congr 2
 rw[flat_set ratCells 3 (fun _=>rfl) l i 0 (by decide) hi u]
 have hl:=flat_len ratCells 3 (fun _=>rfl) l
 apply Array.ext';simp only[Array.toList_setIfInBounds];apply List.ext_getElem?;intro n;have hc:(ratCells u).length=3:=rfl;have htk:((l.flatMap ratCells).take (i*3)).length=i*3:=by rw[List.length_take,hl];omega
 simp only[List.getElem?_set,List.length_set];rcases Nat.lt_or_ge n (i*3) with h1 | h1
 ·rw[if_neg (by omega),if_neg (by omega),if_neg (by omega),List.append_assoc,List.getElem?_append_left (by omega),List.getElem?_take_of_lt h1]
 ·rcases Nat.lt_or_ge n (i*3+3) with h2 | h2
  ·rw[List.append_assoc,List.getElem?_append_right (by omega),htk,List.getElem?_append_left (by rw[hc];omega)]
   rcases(by omega:n=i*3\/n=i*3+1\/n=i*3+2) with rfl | rfl | rfl
   ·rw[if_neg (by omega),if_neg (by omega),if_pos rfl,if_pos (by omega)];simp
   ·rw[if_neg (by omega),if_pos rfl,if_pos (by omega)];simp
   ·rw[if_pos rfl,if_pos (by omega)];simp
  ·rw[if_neg (by omega),if_neg (by omega),if_neg (by omega),List.append_assoc,List.getElem?_append_right (by omega),htk,List.getElem?_append_right (by rw[hc];omega),hc,List.getElem?_drop]
   congr 1
   omega
theorem OwnR.at_(h:OwnR W g l) {N:Nat} (hN:g < N) (hm:l.length<=maxLen):At N W 3 ratCells l (some ⟨g,0,none⟩) l.length :=
 ⟨Nat.le_refl _,hm,fun i u hi=>⟨g,0,rfl,hN,fun j v hj=>by
  have hj3:j < 3:=by have:=(List.getElem?_eq_some_iff.1 hj).1;simpa using this
  obtain⟨h1,h2,h3⟩:=h.cells hi;rw[Nat.zero_add]
  match j,hj3,hj with
  | 0,_,hj=>cases hj;exact h1
  | 1,_,hj=>cases hj;exact h2
  | 2,_,hj=>cases hj;exact h3⟩⟩
end
def sumQ:Nat->(Nat->Rat)->Rat
 | 0,_=>0
 | m+1,f=>sumQ m f+f m
theorem sumQ_le{f g:Nat->Rat} : ∀{m:Nat},(∀k,k < m->f k<=g k)->sumQ m f<=sumQ m g
 | 0,_=>by simp[sumQ]
 | m+1,h=>by
  have h1:=sumQ_le (m:=m) fun k hk=>h k (by omega)
  have h2:=h m (by omega)
  show sumQ m f+f m<=sumQ m g+g m
  grind
theorem sumQ_lt{f g:Nat->Rat} : ∀{m:Nat} (k:Nat),k < m->(∀i,i < m->f i<=g i)->f k < g k->sumQ m f < sumQ m g
 | m+1,k,hk,h,hs=>by
  show sumQ m f+f m < sumQ m g+g m;have h2:=h m (by omega)
  rcases Nat.lt_or_ge k m with h1 | h1
  ·have h3:=sumQ_lt (m:=m) k h1 (fun i hi=>h i (by omega)) hs
   grind
  ·obtain rfl:k=m:=by omega
   have h3:=sumQ_le (m:=k) fun i hi=>h i (by omega)
   grind
theorem sumQ_congr{f g:Nat->Rat} : ∀{m:Nat},(∀k,k < m->f k=g k)->sumQ m f=sumQ m g
 | 0,_=>rfl
 | m+1,h=>by
  show sumQ m f+f m=sumQ m g+g m;rw[sumQ_congr (m:=m) fun k hk=>h k (by omega),h m (by omega)]
theorem sumQ_add(f g:Nat->Rat):∀m:Nat,sumQ m (fun k=>f k+g k)=sumQ m f+sumQ m g
 | 0=>by simp only[sumQ];grind
 | m+1=>by
  show sumQ m (fun k=>f k+g k)+(f m+g m)=sumQ m f+f m+(sumQ m g+g m)
  rw[sumQ_add f g m]
  grind
theorem sumQ_sub(f g:Nat->Rat):∀m:Nat,sumQ m (fun k=>f k-g k)=sumQ m f-sumQ m g
 | 0=>by simp only[sumQ];grind
 | m+1=>by
  show sumQ m (fun k=>f k-g k)+(f m-g m)=sumQ m f+f m-(sumQ m g+g m)
  rw[sumQ_sub f g m]
  grind
theorem sumQ_zero(m:Nat):sumQ m (fun _=>0)=0:=by
 induction m with
 | zero=>rfl
 | succ m ih=>show sumQ m (fun _=>0)+0=0;rw[ih];grind
def onlyQ (p:Nat->Bool) (f:Nat->Rat):Nat->Rat:=fun k=>cond (p k) (f k) 0
structure Ways (on:Nat->Nat->Bool):Prop where
 refl:∀p,on p p=true
 trans:∀h g p,on h g=true->on g p=true->on h p=true
 chain:∀g h p,on g p=true->on h p=true->on g h=true\/on h g=true
section
variable {on:Nat->Nat->Bool} {n m:Nat} {place:Nat->Nat} {t u a:Nat->Rat} {rank:Nat->Int} {x y:Nat->Rat}
def useQ (on:Nat->Nat->Bool) (m:Nat) (place:Nat->Nat) (t:Nat->Rat) (g:Nat):Rat:=sumQ m (onlyQ (fun k=>on g (place k)) t)
def passQ (on:Nat->Nat->Bool) (n:Nat) (x:Nat->Rat) (g:Nat):Rat:=sumQ n (onlyQ (fun p=>on g p) x)
structure BoundQ (on:Nat->Nat->Bool) (n m:Nat) (place:Nat->Nat) (rank:Nat->Int) (a:Nat->Rat) (x t:Nat->Rat) (k g:Nat):Prop where
 lt:g < n
 thru:on g (place k)=true
 dry:useQ on m place t g=passQ on n x g
 low:∀i,i < m->on g (place i)=true->rank k < rank i->t i=0
 part:∀i,i < m->on g (place i)=true->rank i=rank k->t i*a k<=t k*a i
structure FairQ (on:Nat->Nat->Bool) (n m:Nat) (place:Nat->Nat) (rank:Nat->Int) (a:Nat->Rat) (x t:Nat->Rat):Prop where
 pos:∀k,k < m->0<=t k/\t k<=a k
 fits:∀g,g < n->useQ on m place t g<=passQ on n x g
 bound:∀k,k < m->t k < a k->∃g,BoundQ on n m place rank a x t k g
def cover (on:Nat->Nat->Bool) (H:List Nat) (p:Nat):Bool:=H.any fun h=>on h p
theorem cover_le(W:Ways on) (hdt:∀k,k < m->place k < n):∀(c:Nat) (H:List Nat),H.length<=c->(∀h∈H,useQ on m place t h=passQ on n x h/\useQ on m place u h<=passQ on n y h) ->
  sumQ m (onlyQ (fun k=>cover on H (place k)) u)-sumQ m (onlyQ (fun k=>cover on H (place k)) t)<=sumQ n (onlyQ (cover on H) y)-sumQ n (onlyQ (cover on H) x)
 | _,[],_,_=>by
  have e:∀(m:Nat) (q:Nat->Nat) (f:Nat->Rat),sumQ m (onlyQ (fun k=>cover on [] (q k)) f)=0:=fun m q f=>by
   rw[sumQ_congr (g:=fun _=>0) fun k _=>by simp[onlyQ,cover],sumQ_zero]
  have e2:∀f:Nat->Rat,sumQ n (onlyQ (cover on []) f)=0:=fun f=>e n id f
  rw[e,e,e2,e2];exact Rat.le_refl
 | 0,_::_,h,_=>by simp at h
 | c+1,h::H,hc,hH=>by
  by_cases hd:∃h'∈H,on h' h=true
  ·obtain⟨h',h1,h2⟩:=hd;have e:∀p,cover on (h::H) p=cover on H p:=fun p=>by
    unfold cover;rw[List.any_cons];cases hp:on h p with
    | false=>rfl
    | true =>
     rw[Bool.true_or];have h3:on h' p=true:=W.trans _ _ _ h2 hp;exact(List.any_eq_true.2 ⟨h',h1,h3⟩).symm
   have e1:cover on (h::H)=cover on H:=funext e;rw[e1];exact cover_le W hdt c H (by simp at hc;omega) fun g hg=>hH g (List.mem_cons_of_mem _ hg)
  ·have hd2:∀h'∈H,on h' h=false:=fun h' h1=>by
    cases h2:on h' h with
    | false=>rfl
    | true=>exact absurd ⟨h',h1,h2⟩ hd
   have ih:=cover_le W hdt c (H.filter fun g=>!on h g) (by
    have:=List.length_filter_le (fun g=>!on h g) H
    simp at hc;omega) fun g hg=>hH g (List.mem_cons_of_mem _ (List.mem_filter.1 hg).1)
   have e:∀p,cover on (h::H) p=(on h p || cover on (H.filter fun g=>!on h g) p)/\(on h p && cover on (H.filter fun g=>!on h g) p)=false:=fun p=>by
    unfold cover;rw[List.any_cons];cases hp:on h p with
    | true =>
     refine⟨by simp,?_⟩
     rw[Bool.true_and,List.any_eq_false];intro g hg;obtain⟨g1,g2⟩:=List.mem_filter.1 hg;intro g3;rcases W.chain g h p g3 hp with g4 | g4
     ·rw[hd2 g g1] at g4;cases g4
     ·rw[g4] at g2;cases g2
    | false =>
     refine⟨?_,by simp⟩
     rw[Bool.false_or,Bool.false_or,Bool.eq_iff_iff,List.any_eq_true,List.any_eq_true];constructor
     ·rintro⟨g,g1,g2⟩;refine⟨g,List.mem_filter.2 ⟨g1,?_⟩,g2⟩;cases g3:on h g with
      | false=>rfl
      | true=>rw[W.trans _ _ _ g3 g2] at hp;cases hp
     ·rintro⟨g,g1,g2⟩;exact⟨g,(List.mem_filter.1 g1).1,g2⟩
   have split:∀(m:Nat) (q:Nat->Nat) (f:Nat->Rat),sumQ m (onlyQ (fun k=>cover on (h::H) (q k)) f)=sumQ m (onlyQ (fun k=>on h (q k)) f)+sumQ m (onlyQ (fun k=>cover on (H.filter fun g=>!on h g) (q k)) f):=fun m q f=>by
    rw[<- sumQ_add];refine sumQ_congr fun k _=>?_
    obtain⟨e1,e2⟩:=e (q k);show cond (cover on (h::H) (q k)) (f k) 0=cond (on h (q k)) (f k) 0+cond (cover on (H.filter fun g=>!on h g) (q k)) (f k) 0
    rw[e1];generalize on h (q k)=b1 at e2 ⊢;generalize cover on (H.filter fun g=>!on h g) (q k)=b2 at e2 ⊢
    cases b1 <;> cases b2 <;> simp at e2 ⊢ <;> grind
   have s1:=split m place u;have s2:=split m place t;have s3:=split n id y;have s4:=split n id x;obtain⟨d1,d2⟩:=hH h (by simp)
   unfold useQ passQ at d1 d2;simp only[id] at s3 s4;have s3':sumQ n (onlyQ (cover on (h::H)) y)=sumQ n (onlyQ (fun p=>on h p) y)+sumQ n (onlyQ (cover on (H.filter fun g=>!on h g)) y):=s3
   have s4':sumQ n (onlyQ (cover on (h::H)) x)=sumQ n (onlyQ (fun p=>on h p) x)+sumQ n (onlyQ (cover on (H.filter fun g=>!on h g)) x):=s4
   rw[s1,s2,s3',s4']
   grind
theorem least_bad(P:Nat->Prop) (lt:Nat->Nat->Prop) (ht:∀i j k,lt i j->lt j k->lt i k) (hi:∀i,¬lt i i):∀m:Nat,(∃k,k < m/\P k)->∃k,k < m/\P k/\∀i,i < m->P i->¬lt i k
 | 0,⟨k,h,_⟩=>by omega
 | m+1,hex=>by
  by_cases h:∃k,k < m/\P k
  ·obtain⟨k,h1,h2,h3⟩:=least_bad P lt ht hi m h;by_cases hm:P m/\lt m k
   ·refine⟨m,by omega,hm.1,fun i hi2 hP hl=>?_⟩
    rcases Nat.lt_or_ge i m with h4 | h4
    ·exact h3 i h4 hP (ht _ _ _ hl hm.2)
    ·obtain rfl:i=m:=by omega
     exact hi _ hl
   ·refine⟨k,by omega,h2,fun i hi2 hP hl=>?_⟩
    rcases Nat.lt_or_ge i m with h4 | h4
    ·exact h3 i h4 hP hl
    ·obtain rfl:i=m:=by omega
     exact hm ⟨hP,hl⟩
  ·obtain⟨k,h1,h2⟩:=hex;have hk:k=m:=by
    rcases Nat.lt_or_ge k m with h3 | h3
    ·exact absurd ⟨k,h3,h2⟩ h
    ·omega
   subst hk;refine⟨k,by omega,h2,fun i hi2 hP hl=>?_⟩
   rcases Nat.lt_or_ge i k with h4 | h4
   ·exact absurd ⟨i,h4,hP⟩ h
   ·obtain rfl:i=k:=by omega
    exact hi _ hl
def partQ (t a:Nat->Rat) (k:Nat):Rat:=t k / a k
theorem part_le{a1 a2 t1 t2:Rat} (h1:0 < a1) (h2:0 < a2):t1*a2<=t2*a1↔t1 / a1<=t2 / a2:=by
 have e1:t1 / a1*a1=t1:=Rat.div_mul_cancel (by grind)
 have e2:t2 / a2*a2=t2:=Rat.div_mul_cancel (by grind)
 have ha:0 < a1*a2:=Rat.mul_pos h1 h2;generalize t1 / a1=p at *;generalize t2 / a2=q at *;subst e1;subst e2;constructor
 ·intro h;by_cases hpq:p<=q
  ·exact hpq
  ·have:=Rat.mul_lt_mul_of_pos_right (show q < p by grind) ha
   grind
 ·intro h;have:=Rat.mul_le_mul_of_nonneg_right h (show 0<=a1*a2 by grind)
  grind
theorem fair_mono(W:Ways on) (hp:∀k,k < m->place k < n) (hxy:∀p,p < n->x p<=y p) (F:FairQ on n m place rank a x t) (G:FairQ on n m place rank a y u):∀k,k < m->t k<=u k:=by
 intro k0 hk0;rcases Rat.le_total (a:=t k0) (b:=u k0) with h0 | h0
 ·exact h0
 by_cases heq:t k0=u k0
 ·rw[heq];exact Rat.le_refl
 have hlt0:u k0 < t k0:=by grind
 exfalso;obtain⟨k,hk,hbad,hmin⟩:=least_bad (fun k=>u k < t k) (fun i j=>rank i < rank j\/rank i=rank j/\partQ u a i < partQ u a j) (fun i j k h1 h2=>by
  rcases h1 with h1 | ⟨h1,h3⟩ <;> rcases h2 with h2 | ⟨h2,h4⟩
  ·exact .inl (by omega)
  ·exact .inl (by omega)
  ·exact .inl (by omega)
  ·exact .inr ⟨by omega,by grind⟩) (fun i h=>by
  rcases h with h | ⟨-,h⟩
  ·omega
  ·exact Rat.lt_irrefl h) m ⟨k0,hk0,hlt0⟩
 obtain⟨tk0,tk1⟩:=F.pos k hk;obtain⟨uk0,uk1⟩:=G.pos k hk;obtain⟨g,B⟩:=G.bound k hk (by grind)
 have ak:0 < a k:=by grind
 have key:∀i,i < m->on g (place i)=true->t i < u i->∃h,h < n/\on h (place i)=true/\on g h=true/\on h (place k)=false/\useQ on m place t h=passQ on n x h:=by
  intro i hi hon hmore;obtain⟨ti0,ti1⟩:=F.pos i hi;obtain⟨ui0,ui1⟩:=G.pos i hi;have ai:0 < a i:=by grind
  have hrank:rank i<=rank k:=by
   rcases Int.lt_or_le (rank k) (rank i) with h1 | h1
   ·have:=B.low i hi hon h1;grind
   ·exact h1
  obtain⟨h,D⟩:=F.bound i hi (by grind)
  have hnk:on h (place k)=false:=by
   cases hk2:on h (place k) with
   | false=>rfl
   | true =>
    exfalso;rcases Int.lt_or_eq_of_le hrank with h1 | h1
    ·have:=D.low k hk hk2 h1;grind
    ·have p1:=D.part k hk hk2 h1.symm;have p2:=B.part i hi hon h1;rw[part_le ak ai] at p1;rw[part_le ai ak] at p2;have p3:t i / a i < u i / a i:=by rw[Rat.div_lt_iff ai,Rat.div_mul_cancel (by grind)];exact hmore
     have p4:u k / a k < t k / a k:=by rw[Rat.div_lt_iff ak,Rat.div_mul_cancel (by grind)];exact hbad
     grind
  refine⟨h,D.lt,D.thru,?_,hnk,D.dry⟩;rcases W.chain g h (place i) hon D.thru with h1 | h1
  ·exact h1
  ·rw[W.trans _ _ _ h1 B.thru] at hnk;cases hnk
 have list:∀c,c<=m->∃H:List Nat,(∀h∈H,h < n/\on g h=true/\on h (place k)=false/\useQ on m place t h=passQ on n x h)/\∀i,i < c->on g (place i)=true->t i < u i->cover on H (place i)=true:=by
  intro c
  induction c with
  | zero=>intro _;exact⟨[],fun h hh=>(by cases hh),fun i hi=>by omega⟩
  | succ c ih =>
   intro hc;obtain⟨H,h1,h2⟩:=ih (by omega)
   by_cases hb:on g (place c)=true/\t c < u c
   ·obtain⟨h,a1,a2,a3,a4,a5⟩:=key c (by omega) hb.1 hb.2
    refine⟨h::H,fun q hq=>?_,fun i hi hon hm=>?_⟩
    ·rcases List.mem_cons.1 hq with rfl | hq
     ·exact⟨a1,a3,a4,a5⟩
     ·exact h1 q hq
    ·unfold cover;rw[List.any_cons];rcases Nat.lt_or_ge i c with h3 | h3
     ·rw[show(H.any fun h=>on h (place i))=true from h2 i h3 hon hm,Bool.or_true]
     ·obtain rfl:i=c:=by omega
      rw[a2,Bool.true_or]
   ·refine⟨H,h1,fun i hi hon hm=>?_⟩
    rcases Nat.lt_or_ge i c with h3 | h3
    ·exact h2 i h3 hon hm
    ·obtain rfl:i=c:=by omega
     exact absurd ⟨hon,hm⟩ hb
 obtain⟨H,hH,hcov⟩:=list m (Nat.le_refl _);have c1:=cover_le (t:=t) (u:=u) (x:=x) (y:=y) W hp H.length H (Nat.le_refl _) fun h hh=>⟨(hH h hh).2.2.2,G.fits h (hH h hh).1⟩
 have covg:∀p,cover on H p=true->on g p=true:=fun p hc=>by
  obtain⟨h,h1,h2⟩:=List.any_eq_true.1 hc;exact W.trans _ _ _ (hH h h1).2.1 h2
 have covk:cover on H (place k)=false:=by
  unfold cover;rw[List.any_eq_false];intro h hh;rw[(hH h hh).2.2.1];simp
 have s1:sumQ m (onlyQ (fun i=>on g (place i) && !cover on H (place i)) u) < sumQ m (onlyQ (fun i=>on g (place i) && !cover on H (place i)) t):=by
  refine sumQ_lt k hk (fun i hi=>?_) ?_
  ·show cond (on g (place i) && !cover on H (place i)) (u i) 0<=cond (on g (place i) && !cover on H (place i)) (t i) 0;cases h1:on g (place i) with
   | false=>exact Rat.le_refl
   | true =>
   cases h2:cover on H (place i) with
   | true=>exact Rat.le_refl
   | false =>
   show u i<=t i;rcases Rat.le_total (a:=u i) (b:=t i) with h3 | h3
   ·exact h3
   ·by_cases h4:t i=u i
    ·rw[h4];exact Rat.le_refl
    ·rw[hcov i hi h1 (by grind)] at h2;cases h2
  ·show cond (on g (place k) && !cover on H (place k)) (u k) 0 < cond (on g (place k) && !cover on H (place k)) (t k) 0;rw[B.thru,covk];exact hbad
 have s2:∀f:Nat->Rat,useQ on m place f g=sumQ m (onlyQ (fun i=>cover on H (place i)) f)+sumQ m (onlyQ (fun i=>on g (place i) && !cover on H (place i)) f):=fun f=>by
  unfold useQ;rw[<- sumQ_add];refine sumQ_congr fun i _=>?_
  show cond (on g (place i)) (f i) 0=cond (cover on H (place i)) (f i) 0+cond (on g (place i) && !cover on H (place i)) (f i) 0;have h0:=covg (place i);generalize on g (place i)=b1 at h0 ⊢;generalize cover on H (place i)=b2 at h0 ⊢;cases b1 <;> cases b2 <;> simp at h0 ⊢ <;> grind
 have s3:sumQ n (onlyQ (cover on H) y)-sumQ n (onlyQ (cover on H) x)<=passQ on n y g-passQ on n x g:=by
  unfold passQ;rw[<- sumQ_sub,<- sumQ_sub];refine sumQ_le fun p hp2=>?_
  have h3:=hxy p hp2;have h0:=covg p;show cond (cover on H p) (y p) 0-cond (cover on H p) (x p) 0<=cond (on g p) (y p) 0-cond (on g p) (x p) 0;generalize on g p=b1 at h0 ⊢;generalize cover on H p=b2 at h0 ⊢;cases b1 <;> cases b2 <;> simp at h0 ⊢ <;> grind
 have d1:=B.dry;have d2:=F.fits g B.lt;rw[s2] at d1 d2
 grind
end
theorem sumQ_mul(c:Rat) (f:Nat->Rat):∀m:Nat,sumQ m (fun k=>c*f k)=c*sumQ m f
 | 0=>by simp only[sumQ];grind
 | m+1=>by
  show sumQ m (fun k=>c*f k)+c*f m=c*(sumQ m f+f m)
  rw[sumQ_mul c f m]
  grind
theorem sumQ_nonneg{f:Nat->Rat} {m:Nat} (h:∀k,k < m->0<=f k):0<=sumQ m f:=by
 have h1:=sumQ_le (f:=fun _=>0) (g:=f) (m:=m) h
 rw[sumQ_zero] at h1;exact h1
def minQ (a b:Rat):Rat:=if a<=b then a else b
section
variable (on:Nat->Nat->Bool) (n m:Nat) (place:Nat->Nat) (rank:Nat->Int) (a x:Nat->Rat)
def restQ (t:Nat->Rat) (g:Nat):Rat:=passQ on n x g-useQ on m place t g
def wantQ (op:Nat->Bool) (g:Nat):Rat:=sumQ m (onlyQ (fun k=>on g (place k) && op k) a)
def reachQ (t:Nat->Rat) (op:Nat->Bool) (part:Rat):Nat->Rat
 | 0=>1
 | c+1=>if wantQ on m place a op c=0 then reachQ t op part c else minQ (reachQ t op part c) (part+restQ on n m place x t c / wantQ on m place a op c)
def growQ (t:Nat->Rat) (op:Nat->Bool) (p:Rat):Nat->Rat:=fun k=>cond (op k) (a k*p) (t k)
def dryQ (t:Nat->Rat) (p:Nat):Bool:=(List.range n).any fun g=>on g p && decide (restQ on n m place x t g=0)
def openQ (t:Nat->Rat) (op:Nat->Bool) (p:Rat):Nat->Bool:=fun k=>op k && decide (p≠1) && !dryQ on n m place x t (place k)
def someQ (op:Nat->Bool):Bool:=(List.range m).any op
def roundsQ:Nat->(Nat->Rat)->(Nat->Bool)->Rat->(Nat->Rat)
 | 0,t,_,_=>t
 | f+1,t,op,part=>if someQ m op=true then roundsQ f (growQ a t op (reachQ on n m place a x t op part n)) (openQ on n m place x (growQ a t op (reachQ on n m place a x t op part n)) op (reachQ on n m place a x t op part n)) (reachQ on n m place a x t op part n) else t
def firstOpen (r:Int):Nat->Bool:=fun k=>decide (rank k=r) && decide (a k≠0)
def rankQ (t:Nat->Rat) (r:Int):Nat->Rat:=roundsQ on n m place a x (m+1) t (firstOpen rank a r) 0
def allotQ:Nat->(Nat->Rat)
 | 0=>fun _=>0
 | c+1=>rankQ on n m place rank a x (allotQ c) c
end
section
variable {on:Nat->Nat->Bool} {n m:Nat} {place:Nat->Nat} {rank:Nat->Int} {a x t t':Nat->Rat} {op:Nat->Bool} {part:Rat} {r:Int}
theorem some_iff:someQ m op=true↔∃k,k < m/\op k=true:=by
 unfold someQ;rw[List.any_eq_true];constructor
 ·rintro⟨k,h1,h2⟩;exact⟨k,List.mem_range.1 h1,h2⟩
 ·rintro⟨k,h1,h2⟩;exact⟨k,List.mem_range.2 h1,h2⟩
theorem dry_iff{p:Nat} : dryQ on n m place x t p=true↔∃g,g < n/\on g p=true/\restQ on n m place x t g=0:=by
 unfold dryQ;rw[List.any_eq_true];constructor
 ·rintro⟨g,h1,h2⟩;rw[Bool.and_eq_true,decide_eq_true_eq] at h2;exact⟨g,List.mem_range.1 h1,h2⟩
 ·rintro⟨g,h1,h2,h3⟩;exact⟨g,List.mem_range.2 h1,by rw[Bool.and_eq_true,decide_eq_true_eq];exact⟨h2,h3⟩⟩
theorem want_nonneg(ha:∀k,k < m->0<=a k) (g:Nat):0<=wantQ on m place a op g:=by
 refine sumQ_nonneg fun k hk=>?_
 show 0<=cond (on g (place k) && op k) (a k) 0;have:=ha k hk;generalize (on g (place k) && op k)=b;cases b
 ·exact Rat.le_refl
 ·exact this
theorem want_some{g:Nat} (h:wantQ on m place a op g≠0):∃k,k < m/\on g (place k)=true/\op k=true:=by
 rcases Classical.em (∃k,k < m/\on g (place k)=true/\op k=true) with h1 | h1
 ·exact h1
 ·exfalso;apply h;unfold wantQ;rw[sumQ_congr (g:=fun _=>0) fun k hk=>?_,sumQ_zero]
  show cond (on g (place k) && op k) (a k) 0=0;cases h2:on g (place k) <;> cases h3:op k <;> first | rfl | exact absurd ⟨k,hk,h2,h3⟩ h1
theorem reach_facts(hpart:part<=1) (hr:∀g,g < n->0<=restQ on n m place x t g) (ha:∀k,k < m->0<=a k):∀c,c<=n ->
  reachQ on n m place a x t op part c<=1/\part<=reachQ on n m place a x t op part c/\(∀g,g < c->wantQ on m place a op g≠0->reachQ on n m place a x t op part c<=part+restQ on n m place x t g / wantQ on m place a op g) /\
  (reachQ on n m place a x t op part c=1\/∃g,g < c/\wantQ on m place a op g≠0/\reachQ on n m place a x t op part c=part+restQ on n m place x t g / wantQ on m place a op g)
 | 0,_=>⟨Rat.le_refl,hpart,fun g hg=>by omega,.inl rfl⟩
 | c+1,hc=>by
  obtain⟨h1,h2,h3,h4⟩:=reach_facts hpart hr ha c (by omega)
  rw[reachQ];by_cases hw:wantQ on m place a op c=0
  ·rw[if_pos hw];refine⟨h1,h2,fun g hg hwg=>?_,?_⟩
   ·rcases Nat.lt_or_ge g c with h5 | h5
    ·exact h3 g h5 hwg
    ·obtain rfl:g=c:=by omega
     exact absurd hw hwg
   ·rcases h4 with h4 | ⟨g,g1,g2,g3⟩
    ·exact .inl h4
    ·exact .inr ⟨g,by omega,g2,g3⟩
  ·rw[if_neg hw];have hw0:=want_nonneg (on:=on) (place:=place) (op:=op) ha c;have hw1:0 < wantQ on m place a op c:=by grind
   have hq:0<=restQ on n m place x t c / wantQ on m place a op c:=by
    rw[Rat.div_def];exact Rat.mul_nonneg (hr c (by omega)) (by have:=Rat.inv_pos.2 hw1;grind)
   generalize reachQ on n m place a x t op part c=p at h1 h2 h3 h4 ⊢;have hz:part<=part+restQ on n m place x t c / wantQ on m place a op c:=by grind
   generalize hzz:part+restQ on n m place x t c / wantQ on m place a op c=z at hz ⊢;unfold minQ;split
   ·rename_i hle
    refine⟨h1,h2,fun g hg hwg=>?_,?_⟩
    ·rcases Nat.lt_or_ge g c with h5 | h5
     ·exact h3 g h5 hwg
     ·obtain rfl:g=c:=by omega
      rw[hzz];exact hle
    ·rcases h4 with h4 | ⟨g,g1,g2,g3⟩
     ·exact .inl h4
     ·exact .inr ⟨g,by omega,g2,g3⟩
   ·rename_i hle
    have hlt:z<=p:=by grind
    refine⟨by grind,hz,fun g hg hwg=>?_,.inr ⟨c,by omega,hw,hzz.symm⟩⟩
    rcases Nat.lt_or_ge g c with h5 | h5
    ·have:=h3 g h5 hwg;grind
    ·obtain rfl:g=c:=by omega
     rw[hzz];exact Rat.le_refl
theorem BoundQ.keep{k g:Nat} (h:BoundQ on n m place rank a x t k g) (hk:k < m) (hle:∀i,i < m->t i<=t' i) (hfit:useQ on m place t' g<=passQ on n x g):BoundQ on n m place rank a x t' k g:=by
 have same:∀i,i < m->on g (place i)=true->t' i=t i:=fun i hi hon=>by
  have h1:=hle i hi;by_cases h2:t i < t' i
  ·exfalso;have h3:useQ on m place t g < useQ on m place t' g:=by
    refine sumQ_lt i hi (fun j hj=>?_) ?_
    ·show cond (on g (place j)) (t j) 0<=cond (on g (place j)) (t' j) 0;have:=hle j hj;cases on g (place j)
     ·exact Rat.le_refl
     ·exact this
    ·show cond (on g (place i)) (t i) 0 < cond (on g (place i)) (t' i) 0;rw[hon];exact h2
   have h4:=h.dry
   grind
  ·grind
 refine⟨h.lt,h.thru,?_,fun i hi hon hr=>by rw[same i hi hon];exact h.low i hi hon hr,fun i hi hon hr=>by rw[same i hi hon,same k hk h.thru];exact h.part i hi hon hr⟩
 rw[<- h.dry];refine sumQ_congr fun i hi=>?_
 show cond (on g (place i)) (t' i) 0=cond (on g (place i)) (t i) 0;cases hon:on g (place i) with
 | false=>rfl
 | true=>exact same i hi hon
structure InvQ (on:Nat->Nat->Bool) (n m:Nat) (place:Nat->Nat) (rank:Nat->Int) (a x:Nat->Rat) (r:Int) (t:Nat->Rat) (op:Nat->Bool) (part:Rat):Prop where
 opn:∀k,k < m->op k=true->rank k=r/\a k≠0/\t k=a k*part
 p0:0<=part
 p1:part<=1
 box:∀k,k < m->0<=t k/\t k<=a k
 fits:∀g,g < n->useQ on m place t g<=passQ on n x g
 later:∀k,k < m->r < rank k->t k=0
 same:∀k,k < m->rank k=r->t k<=a k*part
 done:∀k,k < m->rank k < r\/(rank k=r/\op k=false)->t k < a k->∃g,BoundQ on n m place rank a x t k g
theorem use_grow(h:InvQ on n m place rank a x r t op part) (p:Rat) (g:Nat):useQ on m place (growQ a t op p) g=useQ on m place t g+(p-part)*wantQ on m place a op g:=by
 unfold useQ wantQ;rw[<- sumQ_mul,<- sumQ_add];refine sumQ_congr fun k hk=>?_
 show cond (on g (place k)) (cond (op k) (a k*p) (t k)) 0=cond (on g (place k)) (t k) 0+(p-part)*cond (on g (place k) && op k) (a k) 0;cases hop:op k with
 | false =>
  rw[Bool.and_false];simp only[cond_false]
  grind
 | true =>
  have h1:=(h.opn k hk hop).2.2;rw[Bool.and_true];cases on g (place k)
  ·simp only[cond_false];grind
  ·simp only[cond_true];grind
theorem round_inv(ha:∀k,k < m->0<=a k) (h:InvQ on n m place rank a x r t op part) (hs:∃k,k < m/\op k=true) :
  InvQ on n m place rank a x r (growQ a t op (reachQ on n m place a x t op part n)) (openQ on n m place x (growQ a t op (reachQ on n m place a x t op part n)) op (reachQ on n m place a x t op part n)) (reachQ on n m place a x t op part n) /\
  ∃k,k < m/\op k=true/\openQ on n m place x (growQ a t op (reachQ on n m place a x t op part n)) op (reachQ on n m place a x t op part n) k=false:=by
 have hrest:∀g,g < n->0<=restQ on n m place x t g:=fun g hg=>by
  have:=h.fits g hg;unfold restQ
  grind
 obtain⟨f1,f2,f3,f4⟩:=reach_facts (op:=op) h.p1 hrest ha n (Nat.le_refl n);generalize reachQ on n m place a x t op part n=p at f1 f2 f3 f4 ⊢;have hgrow:∀k,k < m->t k<=growQ a t op p k:=fun k hk=>by
  show t k<=cond (op k) (a k*p) (t k);cases hop:op k with
  | false=>exact Rat.le_refl
  | true =>
   rw[(h.opn k hk hop).2.2];exact Rat.mul_le_mul_of_nonneg_left f2 (ha k hk)
 have hfits:∀g,g < n->useQ on m place (growQ a t op p) g<=passQ on n x g:=fun g hg=>by
  rw[use_grow h];have hw0:=want_nonneg (on:=on) (place:=place) (op:=op) ha g;by_cases hw:wantQ on m place a op g=0
  ·rw[hw];have:=h.fits g hg;grind
  ·have hw1:0 < wantQ on m place a op g:=by grind
   have h3:=f3 g hg hw;have h5:(p-part)*wantQ on m place a op g<=restQ on n m place x t g / wantQ on m place a op g*wantQ on m place a op g:=Rat.mul_le_mul_of_nonneg_right (by grind) hw0
   rw[Rat.div_mul_cancel hw] at h5;unfold restQ at h5
   grind
 have hrest0:∀g,restQ on n m place x (growQ a t op p) g=restQ on n m place x t g-(p-part)*wantQ on m place a op g:=fun g=>by
  unfold restQ;rw[use_grow h]
  grind
 have hclose:∀k,k < m->op k=true->openQ on n m place x (growQ a t op p) op p k=false->p=1\/∃g,g < n/\on g (place k)=true/\restQ on n m place x (growQ a t op p) g=0:=fun k hk hop ho=>by
  unfold openQ at ho;rw[hop,Bool.true_and,Bool.and_eq_false_iff] at ho;rcases ho with ho | ho
  ·rw[decide_eq_false_iff_not,Classical.not_not] at ho;exact .inl ho
  ·rw[Bool.not_eq_false',dry_iff] at ho;exact .inr ho
 refine⟨⟨fun k hk ho=>?_,by have:=h.p0;grind,f1,fun k hk=>?_,hfits,fun k hk hr=>?_,fun k hk hr=>?_,fun k hk hd hlt=>?_⟩,?_⟩
 ·have hop:op k=true:=by
   unfold openQ at ho;rw[Bool.and_assoc,Bool.and_eq_true] at ho;exact ho.1
  obtain⟨h1,h2,-⟩:=h.opn k hk hop;refine⟨h1,h2,?_⟩;show cond (op k) (a k*p) (t k)=a k*p;rw[hop];rfl
 ·have h0:=hgrow k hk;have h1:=h.box k hk;refine⟨by grind,?_⟩
  show cond (op k) (a k*p) (t k)<=a k;cases hop:op k with
  | false=>exact h1.2
  | true =>
   have:=Rat.mul_le_mul_of_nonneg_left f1 (ha k hk);show a k*p<=a k
   grind
 ·show cond (op k) (a k*p) (t k)=0;cases hop:op k with
  | false=>exact h.later k hk hr
  | true=>have:=(h.opn k hk hop).1;omega
 ·show cond (op k) (a k*p) (t k)<=a k*p;cases hop:op k with
  | false =>
   have h1:=h.same k hk hr;have h2:=Rat.mul_le_mul_of_nonneg_left f2 (ha k hk);show t k<=a k*p
   grind
  | true=>exact Rat.le_refl
 ·by_cases hop:op k=true
  ·
   have hr:=(h.opn k hk hop).1;have hcl:openQ on n m place x (growQ a t op p) op p k=false:=by
    rcases hd with hd | hd
    ·omega
    ·exact hd.2
   have htk:growQ a t op p k=a k*p:=by show cond (op k) (a k*p) (t k)=a k*p;rw[hop];rfl
   rcases hclose k hk hop hcl with h1 | ⟨g,g1,g2,g3⟩
   ·rw[htk,h1] at hlt;grind
   ·refine⟨g,g1,g2,by unfold restQ at g3;grind,fun i hi hon hri=>?_,fun i hi hon hri=>?_⟩
    ·show cond (op i) (a i*p) (t i)=0;cases hoi:op i with
     | false=>exact h.later i hi (by omega)
     | true=>have:=(h.opn i hi hoi).1;omega
    ·rw[htk];have h1:growQ a t op p i<=a i*p:=by
      show cond (op i) (a i*p) (t i)<=a i*p;cases hoi:op i with
      | false =>
       have h2:=h.same i hi (by omega)
       have h3:=Rat.mul_le_mul_of_nonneg_left f2 (ha i hi);show t i<=a i*p
       grind
      | true=>exact Rat.le_refl
     have h2:=Rat.mul_le_mul_of_nonneg_right h1 (ha k hk)
     grind
  ·
   have hof:op k=false:=by simpa using hop
   have htk:growQ a t op p k=t k:=by show cond (op k) (a k*p) (t k)=t k;rw[hof];rfl
   rw[htk] at hlt;obtain⟨g,B⟩:=h.done k hk (by
    rcases hd with hd | hd
    ·exact .inl hd
    ·exact .inr ⟨hd.1,hof⟩) hlt
   exact⟨g,B.keep hk hgrow (hfits g B.lt)⟩
 ·rcases f4 with f4 | ⟨g,g1,g2,g3⟩
  ·obtain⟨k,hk,hop⟩:=hs;refine⟨k,hk,hop,?_⟩;unfold openQ;rw[f4];simp
  ·obtain⟨k,hk,hon,hop⟩:=want_some g2;refine⟨k,hk,hop,?_⟩;have hz:restQ on n m place x (growQ a t op p) g=0:=by
    rw[hrest0,g3];have h5:=Rat.div_mul_cancel (a:=restQ on n m place x t g) g2
    grind
   unfold openQ;rw[show dryQ on n m place x (growQ a t op p) (place k)=true from dry_iff.2 ⟨g,g1,hon,hz⟩];simp
def cntQ (op:Nat->Bool):Nat->Nat
 | 0=>0
 | m+1=>cntQ op m+(if op m=true then 1 else 0)
theorem cnt_le(op:Nat->Bool):∀m,cntQ op m<=m
 | 0=>Nat.le_refl _
 | m+1=>by have:=cnt_le op m;rw[cntQ];split <;> omega
theorem cnt_lt{op op':Nat->Bool} : ∀{m:Nat} (k:Nat),k < m->(∀i,i < m->op' i=true->op i=true)->op k=true->op' k=false->cntQ op' m < cntQ op m
 | m+1,k,hk,hi,h1,h2=>by
  have mono:∀c,c<=m->cntQ op' c<=cntQ op c:=by
   intro c
   induction c with
   | zero=>intro _;exact Nat.le_refl _
   | succ c ih =>
    intro hc;have:=ih (by omega)
    have:=hi c (by omega)
    rw[cntQ,cntQ];split <;> split <;> simp_all <;> omega
  rw[cntQ,cntQ];rcases Nat.lt_or_ge k m with h3 | h3
  ·have:=cnt_lt (m:=m) k h3 (fun i h=>hi i (by omega)) h1 h2
   have:=hi m (by omega)
   split <;> split <;> simp_all <;> omega
  ·obtain rfl:k=m:=by omega
   have:=mono k (Nat.le_refl _);rw[h1,h2];simp;omega
theorem rounds_inv(ha:∀k,k < m->0<=a k):∀(f:Nat) (t:Nat->Rat) (op:Nat->Bool) (part:Rat),InvQ on n m place rank a x r t op part->cntQ op m < f ->
  ∃op' part',InvQ on n m place rank a x r (roundsQ on n m place a x f t op part) op' part'/\∀k,k < m->op' k=false
 | 0,_,_,_,_,hf=>by omega
 | f+1,t,op,part,h,hf=>by
  rw[roundsQ];by_cases hs:someQ m op=true
  ·rw[if_pos hs];obtain⟨h1,k,hk,h2,h3⟩:=round_inv ha h (some_iff.1 hs);refine rounds_inv ha f _ _ _ h1 ?_;have:=cnt_lt k hk (fun i _ ho=>by
    unfold openQ at ho;rw[Bool.and_assoc,Bool.and_eq_true] at ho;exact ho.1) h2 h3
   omega
  ·rw[if_neg hs];refine⟨op,part,h,fun k hk=>?_⟩
   cases ho:op k with
   | false=>rfl
   | true=>exact absurd (some_iff.2 ⟨k,hk,ho⟩) hs
structure RankedQ (on:Nat->Nat->Bool) (n m:Nat) (place:Nat->Nat) (rank:Nat->Int) (a x:Nat->Rat) (c:Int) (t:Nat->Rat):Prop where
 box:∀k,k < m->0<=t k/\t k<=a k
 fits:∀g,g < n->useQ on m place t g<=passQ on n x g
 later:∀k,k < m->c<=rank k->t k=0
 done:∀k,k < m->rank k < c->t k < a k->∃g,BoundQ on n m place rank a x t k g
theorem rank_step(ha:∀k,k < m->0<=a k) (h:RankedQ on n m place rank a x r t):RankedQ on n m place rank a x (r+1) (rankQ on n m place rank a x t r):=by
 have h0:InvQ on n m place rank a x r t (firstOpen rank a r) 0:=by
  refine⟨fun k hk ho=>?_,Rat.le_refl,by decide,h.box,h.fits,fun k hk hr=>h.later k hk (by omega),fun k hk hr=>?_,fun k hk hd hlt=>?_⟩
  ·unfold firstOpen at ho;rw[Bool.and_eq_true,decide_eq_true_eq,decide_eq_true_eq] at ho;refine⟨ho.1,ho.2,?_⟩;rw[h.later k hk (by omega)]
   grind
  ·rw[h.later k hk (by omega)];grind
  ·rcases hd with hd | ⟨hd,ho⟩
   ·exact h.done k hk hd hlt
   ·exfalso;unfold firstOpen at ho;rw[hd] at ho;have hz:a k=0:=by simpa using ho
    have:=(h.box k hk).1;rw[hz] at hlt
    grind
 obtain⟨op',part',h1,h2⟩:=rounds_inv ha (m+1) t _ 0 h0 (by have:=cnt_le (firstOpen rank a r) m;omega)
 refine⟨h1.box,h1.fits,fun k hk hr=>h1.later k hk (by omega),fun k hk hr hlt=>h1.done k hk ?_ hlt⟩
 rcases Int.lt_or_le (rank k) r with h3 | h3
 ·exact .inl h3
 ·exact .inr ⟨by omega,h2 k hk⟩
theorem ranked(ha:∀k,k < m->0<=a k) (hx:∀p,p < n->0<=x p) (hr:∀k,k < m->0<=rank k):∀c:Nat,RankedQ on n m place rank a x c (allotQ on n m place rank a x c)
 | 0=>by
  refine⟨fun k hk=>⟨Rat.le_refl,ha k hk⟩,fun g hg=>?_,fun k hk _=>rfl,fun k hk h=>by have:=hr k hk;have:((0:Nat):Int)=0:=rfl;omega⟩
  have h1:useQ on m place (allotQ on n m place rank a x 0) g=0:=by
   unfold useQ;rw[sumQ_congr (g:=fun _=>0) fun k hk=>?_,sumQ_zero]
   show cond (on g (place k)) 0 0=(0:Rat);cases on g (place k) <;> rfl
  rw[h1];refine sumQ_nonneg fun p hp=>?_
  show 0<=cond (on g p) (x p) 0;have:=hx p hp;cases on g p
  ·exact Rat.le_refl
  ·exact this
 | c+1=>by
  have:=rank_step ha (ranked ha hx hr c);have e:((c+1:Nat):Int)=(c:Int)+1:=by omega
  rw[e];exact this
end
def downOf (d:List Int) (p:Int):Int:=if p < 0 then p else d.getD p.toNat (-1)
def stepN (d:List Int):Nat->Int->Int
 | 0,p=>p
 | j+1,p=>stepN d j (downOf d p)
theorem step_add(d:List Int):∀(i j:Nat) (p:Int),stepN d (i+j) p=stepN d j (stepN d i p)
 | 0,j,p=>by rw[Nat.zero_add,stepN]
 | i+1,j,p=>by rw[show i+1+j=i+j+1 by omega,stepN,stepN,step_add d i j]
theorem step_neg(d:List Int):∀(j:Nat) (p:Int),p < 0->stepN d j p < 0
 | 0,p,h=>h
 | j+1,p,h=>by
  rw[stepN];refine step_neg d j _ ?_;unfold downOf;rw[if_pos h];exact h
theorem step_last(d:List Int):∀(j:Nat) (p:Int),stepN d (j+1) p=downOf d (stepN d j p)
 | 0,p=>rfl
 | j+1,p=>by rw[stepN,step_last d j,stepN]
def EndsN (d:List Int):Prop:=∀p:Nat,stepN d (d.length+1) p < 0
def onN (d:List Int) (g p:Nat):Bool:=(List.range (d.length+1)).any fun j=>stepN d j p == g
theorem on_iff{d:List Int} (h:EndsN d) {g p:Nat} : onN d g p=true↔∃j,stepN d j p=g:=by
 unfold onN;rw[List.any_eq_true];constructor
 ·rintro⟨j,-,h2⟩;exact⟨j,by simpa using h2⟩
 ·rintro⟨j,h2⟩;refine⟨j,List.mem_range.2 ?_,by simpa using h2⟩
  rcases Nat.lt_or_ge j (d.length+1) with h3 | h3
  ·exact h3
  ·exfalso;obtain⟨c,rfl⟩ : ∃c,j=d.length+1+c:=⟨j-(d.length+1),by omega⟩
   rw[step_add] at h2;have:=step_neg d c _ (h p);omega
theorem ways_of{d:List Int} (h:EndsN d):Ways (onN d):=by
 refine⟨fun p=>(on_iff h).2 ⟨0,rfl⟩,fun a g p h1 h2=>?_,fun g a p h1 h2=>?_⟩
 ·obtain⟨j,h1⟩:=(on_iff h).1 h1;obtain⟨i,h2⟩:=(on_iff h).1 h2;exact(on_iff h).2 ⟨i+j,by rw[step_add,h2,h1]⟩
 ·obtain⟨i,h1⟩:=(on_iff h).1 h1;obtain⟨j,h2⟩:=(on_iff h).1 h2;rcases Nat.le_total i j with h3 | h3
  ·refine .inr ((on_iff h).2 ⟨j-i,?_⟩);rw[<- h1,<- step_add,show i+(j-i)=j by omega,h2]
  ·refine .inl ((on_iff h).2 ⟨i-j,?_⟩);rw[<- h2,<- step_add,show j+(i-j)=i by omega,h1]
theorem ends_of{d:List Int} (h:∀p:Nat,p < d.length->stepN d d.length p < 0):EndsN d:=fun p=>by
 rcases Nat.lt_or_ge p d.length with h1 | h1
 ·rw[step_add];exact step_neg d 1 _ (h p h1)
 ·rw[Nat.add_comm,step_add];refine step_neg d _ _ ?_;show stepN d 0 (downOf d (p:Int)) < 0;rw[stepN];unfold downOf;rw[if_neg (by omega),Int.toNat_natCast,List.getD_eq_getElem?_getD,List.getElem?_eq_none h1]
  show(-1:Int) < 0;decide
theorem step_lt{d:List Int} (hd:∀x∈d,x < d.length):∀(j:Nat) (p:Nat),p < d.length->stepN d j p < d.length
 | 0,p,h=>by show(p:Int) < d.length;omega
 | j+1,p,h=>by
  rw[step_last];have ih:=step_lt hd j p h;unfold downOf;split
  ·exact ih
  ·rw[List.getD_eq_getElem?_getD];cases hx:d[(stepN d j p).toNat]? with
   | none=>show(-1:Int) < d.length;omega
   | some v=>exact hd v (List.mem_of_getElem? hx)
def badW (w:Int):Bool:=decide (w < 0) || decide (999999999999999 < w)
def kerE (ws:List Int):Int :=
 if ws.length < 1\/400 < ws.length then 2 else if ws.any badW=true then 3 else if 999999999999999 < ws.sum then 3 else if ws.sum=0 then 1 else 0
theorem sum_bound{ws:List Int} (h:∀x∈ws,0<=x/\x<=999999999999999):0<=ws.sum/\ws.sum<=999999999999999*ws.length:=by
 induction ws with
 | nil=>simp
 | cons x l ih =>
  have h1:=h x (by simp)
  have h2:=ih fun y hy=>h y (by simp[hy])
  simp only[List.sum_cons,List.length_cons];omega
theorem sum_take_succ{ws:List Int} {k:Nat} {x:Int} (hx:ws[k]? = some x):(ws.take (k+1)).sum=(ws.take k).sum+x:=by
 obtain⟨hlt,rfl⟩:=List.getElem?_eq_some_iff.1 hx;rw[List.take_succ_eq_append_getElem hlt,List.sum_append];simp
theorem any_take_succ{ws:List Int} {f:Int->Bool} {k:Nat} {x:Int} (hx:ws[k]? = some x) (h:(ws.take k).any f=false):(ws.take (k+1)).any f=f x:=by
 obtain⟨hlt,rfl⟩:=List.getElem?_eq_some_iff.1 hx;rw[List.take_succ_eq_append_getElem hlt,List.any_append,h];simp
theorem any_of{α:Type} {ws:List α} {f:α->Bool} {k:Nat} {x:α} (hx:ws[k]? = some x) (h:f x=true):ws.any f=true:=List.any_eq_true.2 ⟨x,List.mem_of_getElem? hx,h⟩
def wayN (d:List Int):Nat->Int->List Nat
 | 0,_=>[]
 | f+1,p=>if p < 0 then[] else p.toNat::wayN d f (downOf d p)
def way (d:List Int) (p:Int):List Nat:=wayN d (d.length+1) p
theorem wayN_drop(d:List Int):∀(k f:Nat) (p:Int),(wayN d (f+k) p).drop k=wayN d f (stepN d k p)
 | 0,f,p=>rfl
 | k+1,f,p=>by
  rw[<- Nat.add_assoc,wayN];split
  ·rename_i h
   have h2:=step_neg d (k+1) p h;rw[List.drop_nil];cases f with
   | zero=>rfl
   | succ f=>rw[wayN,if_pos h2]
  ·rw[List.drop_succ_cons,wayN_drop d k f,stepN]
theorem way_drop{d:List Int} {k:Nat} {p:Int} (h:k<=d.length+1):(way d p).drop k=wayN d (d.length+1-k) (stepN d k p):=by
 unfold way;obtain⟨f,hf⟩ : ∃f,d.length+1=f+k:=⟨d.length+1-k,by omega⟩
 rw[hf,wayN_drop,Nat.add_sub_cancel]
theorem way_len(d:List Int) (p:Int):(way d p).length<=d.length+1:=by
 have:∀f p,(wayN d f p).length<=f:=by
  intro f
  induction f with
  | zero=>intro p;exact Nat.le_refl _
  | succ f ih =>
   intro p;rw[wayN];split
   ·simp
   ·rw[List.length_cons];have:=ih (downOf d p);omega
 exact this _ p
theorem way_end{d:List Int} {k:Nat} {p:Int} (hk:k<=d.length+1) (hk2:k<=(way d p).length) (h:stepN d k p < 0):k=(way d p).length:=by
 have h1:=way_drop (p:=p) hk;have h2:∀f,wayN d f (stepN d k p)=[]:=by
  intro f;cases f with
  | zero=>rfl
  | succ f=>rw[wayN,if_pos h]
 rw[h2] at h1;have:=List.drop_eq_nil_iff.1 h1;omega
theorem way_next{d:List Int} {k:Nat} {p:Int} (hk:k<=d.length) (h:¬stepN d k p < 0):(way d p)[k]? = some (stepN d k p).toNat/\k < (way d p).length:=by
 have h1:=way_drop (p:=p) (show k<=d.length+1 by omega)
 obtain⟨f,hf⟩ : ∃f,d.length+1-k=f+1:=⟨d.length-k,by omega⟩
 rw[hf,wayN,if_neg h] at h1;have h2:=List.getElem?_drop (xs:=way d p) (i:=k) (j:=0);rw[h1] at h2;have h3:(way d p)[k]? = some (stepN d k p).toNat:=by simpa using h2.symm
 exact⟨h3,(List.getElem?_eq_some_iff.1 h3).1⟩
theorem way_full{d:List Int} {p:Int} (h:¬stepN d (d.length+1) p < 0):(way d p).length=d.length+1:=by
 have h1:¬stepN d d.length p < 0:=fun h2=>h (by rw[step_last];unfold downOf;rw[if_pos h2];exact h2)
 have:=(way_next (p:=p) (Nat.le_refl d.length) h1).2;have:=way_len d p;omega
theorem step_bound{d:List Int} (hd:∀x∈d,x < d.length) {p:Nat} (hp:p < d.length) (k:Nat):stepN d k p < d.length:=step_lt hd k p hp
theorem step_next{d:List Int} {k:Nat} {p x:Int} (h:¬stepN d k p < 0) (hx:d[(stepN d k p).toNat]? = some x):stepN d (k+1) p=x:=by
 rw[step_last];unfold downOf;rw[if_neg h,List.getD_eq_getElem?_getD,hx];rfl
end Go.Proofs.YtanhhdndgkhcfaaGreatDoor
