/- Part 1 of the proof of lawSpec.card: NatPlain, NatKnuth, NatOps, RangeLaw, OutLaw, Lays, RoundLaw, ColLaw, NatAt, Quiet, NatWalkA, NatWalkB. Conditions: those of each theorem. -/
import Derived.Lib.Hide
import Derived.Lib.Bytealg
import Derived.RangeFuncNested
import Derived.RangeFuncBound
import Derived.RangeFuncCalls
import Derived.RangeFuncLeaves
import Derived.WalkKit
import Derived.OwnWalkIn
import Derived.TacticsInMore
import Derived.LoopNIn
import Derived.LoopIn
import Derived.Maps.AppendAt
import Derived.Maps.OwnIn
import Derived.OrdersIn
import Derived.OrdersHeld
import Derived.ArgAppend
import Derived.StillTail
import Derived.Deep.Draws
import Derived.Deep.QuietTactic
import Derived.Calls
import Derived.Test.YtanhhdndgkhcfaaGreatDoorProg
import Derived.BigQuiet
import Derived.WalkLawsBesides
import Derived.Below
set_option maxRecDepth 20000
namespace Go.Proofs.YtanhhdndgkhcfaaGreatDoor
theorem zh {p:Prop}(h:p):Go.RowKit.Hid p:=h
theorem zt {P:Go.Program} {ops:Array Go.Oper} {Q:Go.Exit->Go.Act->Go.World->Prop} {md:Go.Region.Mode} {S:Go.World->Prop} (i:Nat) (v:Go.Value) {oi:Go.Oper} {fuel:Nat} {listed:Array Bool} {a:Go.Act} {w:Go.World} (hi:ops[i]? = some oi) (hy:Go.YieldsIf P ops S oi v a) (hS:S w)
  (h:Go.wpAnyH P md ops Q S fuel (listed.setIfInBounds i true) (a.put oi.dst v) w) (hs:Go.Region.noSelect ops=true:=by kernel_rfl) (hf:Go.Region.free md ops listed i=true:=by kernel_rfl) (hr:(Go.Region.ready md ops listed).contains i=true:=by kernel_rfl)
  (hQ:∀c a w,Q (.panic c) (a.put oi.dst v) w->Q (.panic c) a w:=by exact fun _ _ _ h=>h):Go.wpAnyH P md ops Q S (fuel+1) listed a w:=Go.wpAnyH_take hi hs hf hr hQ hy hS h
theorem zz0{α:Type} {xs:List α} {i:Nat} (h:i < xs.toArray.size):xs.toArray[i]=xs[i]'(by simpa using h):=rfl
theorem zz1{α:Type} {a:α} {l:List α} (h:0 < (a::l).length):(a::l)[0]=a:=rfl
theorem zz2{α:Type} {a:α} {l:List α} {i:Nat} (h:i+1 < (a::l).length):(a::l)[i+1]=l[i]'(Nat.lt_of_succ_lt_succ h):=rfl
theorem zz3{α:Type} {l:List α} {i:Nat} {a:α} : l.toArray.setIfInBounds i a=(l.set i a).toArray:=List.setIfInBounds_toArray ..
theorem zz4{α:Type} {a b:α} {l:List α} : (a::l).set 0 b=b::l:=rfl
theorem zz5{α:Type} {a b:α} {l:List α} {n:Nat} : (a::l).set (n+1) b=a::l.set n b:=rfl
def valB:List UInt8->Nat
 | []=>0
 | b::l=>b.toNat*256 ^ l.length+valB l
theorem valB_app(a b:List UInt8):valB (a++b)=valB a*256 ^ b.length+valB b:=by
 induction a with
 | nil=>simp[valB]
 | cons x a ih =>
  rw[List.cons_append,valB,valB,ih,List.length_append,Nat.pow_add,Nat.add_mul,Nat.mul_assoc,Nat.add_assoc]
theorem valB_snoc(a:List UInt8) (x:UInt8):valB (a++[x])=valB a*256+x.toNat:=by
 rw[valB_app];simp[valB]
theorem valB_lt:∀l:List UInt8,valB l < 256 ^ l.length
 | []=>by simp[valB]
 | b::l=>by
  have h1:=valB_lt l;have h2:b.toNat < 256:=b.toNat_lt;rw[valB,List.length_cons,Nat.pow_succ];have h3:b.toNat*256 ^ l.length<=255*256 ^ l.length:=Nat.mul_le_mul_right _ (by omega)
  omega
def encN (n:Nat):List UInt8:=if _h:n=0 then[] else encN (n / 256)++[UInt8.ofNat (n % 256)]
termination_by n
decreasing_by omega
theorem encN_zero:encN 0=[]:=by rw[encN];rfl
theorem encN_pos{n:Nat} (h:n≠0):encN n=encN (n / 256)++[UInt8.ofNat (n % 256)]:=by rw[encN,dif_neg h]
theorem byte_nat(n:Nat) (h:n < 256):(UInt8.ofNat n).toNat=n:=by simp[UInt8.toNat_ofNat'];omega
theorem valB_encN:∀n:Nat,valB (encN n)=n:=by
 intro n
 induction n using Nat.strongRecOn with
 | _ n ih =>
  by_cases h:n=0
  ·subst h;rw[encN_zero];rfl
  ·rw[encN_pos h,valB_snoc,ih (n / 256) (by omega),byte_nat _ (by omega)];omega
def cleanB (l:List UInt8):List UInt8:=l.dropWhile (· == 0)
theorem cleanB_zero(l:List UInt8):cleanB (0::l)=cleanB l:=by simp[cleanB]
theorem cleanB_cons{b:UInt8} (h:b≠0) (l:List UInt8):cleanB (b::l)=b::l:=by simp[cleanB,h]
theorem clean_snoc:∀(l:List UInt8) (x:UInt8),cleanB (l++[x])=if valB l=0 then(if x=0 then[] else[x]) else cleanB l++[x]
 | [],x=>by
  by_cases h:x=0
  ·subst h;simp[cleanB,valB]
  ·rw[List.nil_append,cleanB_cons h];simp[valB,h]
 | b::l,x=>by
  by_cases h:b=0
  ·subst h;rw[List.cons_append,cleanB_zero,clean_snoc l x,cleanB_zero,valB];simp
  ·rw[List.cons_append,cleanB_cons h,cleanB_cons h];have h2:0 < b.toNat:=by
    rcases Nat.eq_zero_or_pos b.toNat with h3 | h3
    ·exact absurd (UInt8.toNat_inj.1 (by simpa using h3)) h
    ·exact h3
   have h3:0 < 256 ^ l.length:=Nat.pow_pos (by decide)
   have h4:=Nat.mul_pos h2 h3;rw[if_neg (by rw[valB];omega)]
   rfl
theorem encN_val(l:List UInt8):encN (valB l)=cleanB l:=by
 induction h:l.length generalizing l with
 | zero =>
  have:l=[]:=List.length_eq_zero_iff.1 h;subst this;exact encN_zero
 | succ n ih =>
  obtain⟨a,x,rfl⟩ : ∃a x,l=a++[x]:=⟨l.dropLast,l.getLast (by intro e;rw[e] at h;simp at h),(List.dropLast_concat_getLast _).symm⟩
  have ha:a.length=n:=by simpa using h
  have hx:x.toNat < 256:=x.toNat_lt;rw[valB_snoc,clean_snoc];by_cases h0:valB a=0
  ·rw[if_pos h0,h0];by_cases hx0:x=0
   ·subst hx0;simp[encN_zero]
   ·have h2:x.toNat≠0:=fun h3=>hx0 (UInt8.toNat_inj.1 (by simpa using h3))
    rw[if_neg hx0,encN_pos (by omega),show(0*256+x.toNat) / 256=0 by omega,encN_zero,List.nil_append,show(0*256+x.toNat) % 256=x.toNat by omega]
    simp
  ·rw[if_neg h0,encN_pos (by omega),show(valB a*256+x.toNat) / 256=valB a by omega,show(valB a*256+x.toNat) % 256=x.toNat by omega,ih a ha]
   simp
theorem encN_inj{a b:Nat} (h:encN a=encN b):a=b:=by rw[<- valB_encN a,h,valB_encN]
theorem encN_len_le{n k:Nat} (h:n < 256 ^ k):(encN n).length<=k:=by
 induction k generalizing n with
 | zero =>
  have:n=0:=by simpa using h
  subst this;rw[encN_zero];simp
 | succ k ih =>
  by_cases h0:n=0
  ·subst h0;rw[encN_zero];simp
  ·rw[encN_pos h0,List.length_append,List.length_singleton];have:=ih (n:=n / 256) (by rw[Nat.pow_succ] at h;omega)
   omega
theorem cleanB_len(l:List UInt8):(cleanB l).length<=l.length:=(List.dropWhile_sublist _).length_le
def vL (b:Nat):List Nat->Nat
 | []=>0
 | d::l=>d+b*vL b l
theorem vL_app(b:Nat) (x y:List Nat):vL b (x++y)=vL b x+b ^ x.length*vL b y:=by
 induction x with
 | nil=>simp[vL]
 | cons d x ih =>
  rw[List.cons_append,vL,vL,ih,List.length_cons,Nat.pow_succ,Nat.mul_add,Nat.mul_comm (b ^ x.length) b,Nat.mul_assoc,Nat.add_assoc]
theorem vL_snoc(b:Nat) (x:List Nat) (d:Nat):vL b (x++[d])=vL b x+b ^ x.length*d:=by
 rw[vL_app];simp[vL]
theorem vL_lt{b:Nat} (hb:0 < b):∀{l:List Nat},(∀d∈l,d < b)->vL b l < b ^ l.length
 | [],_=>by simp[vL]
 | d::l,h=>by
  have h1:=vL_lt hb fun x hx=>h x (List.mem_cons_of_mem _ hx)
  have h2:=h d (by simp)
  rw[vL,List.length_cons,Nat.pow_succ];have h3:vL b l+1<=b ^ l.length:=h1;have h4:b*(vL b l+1)<=b*b ^ l.length:=Nat.mul_le_mul_left _ h3;rw[Nat.mul_add,Nat.mul_one,Nat.mul_comm b (b ^ l.length)] at h4;omega
def trimL:List Nat->List Nat
 | []=>[]
 | d::l=>if d=0/\trimL l=[] then[] else d::trimL l
theorem vL_trim(b:Nat):∀l:List Nat,vL b (trimL l)=vL b l
 | []=>rfl
 | d::l=>by
  have ih:=vL_trim b l;rw[trimL];split
  ·rename_i h
   have h2:vL b l=0:=by rw[<- ih,h.2];rfl
   show 0=d+b*vL b l;rw[h2,h.1];simp
  ·rw[vL,vL,ih]
theorem trimL_prefix(l:List Nat):∃k,trimL l=l.take k/\k<=l.length:=by
 induction l with
 | nil=>exact⟨0,rfl,Nat.le_refl _⟩
 | cons d l ih =>
  obtain⟨k,h1,h2⟩:=ih;rw[trimL];split
  ·exact⟨0,rfl,Nat.zero_le _⟩
  ·exact⟨k+1,by rw[List.take_succ_cons,h1],by simp;omega⟩
theorem trimL_len(l:List Nat):(trimL l).length<=l.length:=by
 obtain⟨k,h,hk⟩:=trimL_prefix l;rw[h,List.length_take];omega
theorem trimL_take(l:List Nat):trimL l=l.take (trimL l).length:=by
 obtain⟨k,h,hk⟩:=trimL_prefix l;rw[h,List.length_take,Nat.min_eq_left hk]
theorem trim_snoc_zero(l:List Nat):trimL (l++[0])=trimL l:=by
 induction l with
 | nil=>simp[trimL]
 | cons d l ih=>rw[List.cons_append,trimL,trimL,ih]
theorem trim_snoc{d:Nat} (hd:d≠0) (l:List Nat):trimL (l++[d])=l++[d]:=by
 induction l with
 | nil=>simp[trimL,hd]
 | cons x l ih =>
  rw[List.cons_append,trimL,ih,if_neg];rintro⟨-,h⟩;simp at h
theorem trim_trim(l:List Nat):trimL (trimL l)=trimL l:=by
 induction l with
 | nil=>rfl
 | cons d l ih =>
  rw[trimL];split
  ·rfl
  ·rename_i h
   rw[trimL,ih,if_neg h]
def digs (b n:Nat):List Nat:=if _h:n=0\/b < 2 then[] else n % b::digs b (n / b)
termination_by n
decreasing_by
 exact Nat.div_lt_self (by omega) (by omega)
theorem digs_zero(b:Nat):digs b 0=[]:=by rw[digs,dif_pos (.inl rfl)]
theorem digs_pos{b n:Nat} (hb:2<=b) (h:n≠0):digs b n=n % b::digs b (n / b):=by rw[digs,dif_neg (by omega)]
theorem digs_vL{b:Nat} (hb:2<=b):∀{l:List Nat},(∀d∈l,d < b)->digs b (vL b l)=trimL l
 | [],_=>digs_zero b
 | d::l,h=>by
  have ih:=digs_vL hb (l:=l) fun x hx=>h x (List.mem_cons_of_mem _ hx)
  have hd:=h d (by simp)
  rw[trimL,vL];by_cases h0:d+b*vL b l=0
  ·have h1:d=0:=by omega
   have h2:vL b l=0:=by
    rcases Nat.eq_zero_or_pos (vL b l) with h3 | h3
    ·exact h3
    ·have:=Nat.mul_pos (show 0 < b by omega) h3;omega
   rw[h0,digs_zero,if_pos ⟨h1,by rw[<- ih,h2,digs_zero]⟩]
  ·rw[digs_pos hb h0,if_neg,<- ih]
   ·congr 1
    ·rw[Nat.add_mul_mod_self_left,Nat.mod_eq_of_lt hd]
    ·congr 1
     rw[Nat.add_mul_div_left _ _ (by omega),Nat.div_eq_of_lt hd,Nat.zero_add]
   ·rintro⟨h1,h2⟩;apply h0;rw[h1,<- vL_trim,h2];simp[vL]
theorem vL_digs{b:Nat} (hb:2<=b) (n:Nat):vL b (digs b n)=n:=by
 induction n using Nat.strongRecOn with
 | _ n ih =>
  by_cases h:n=0
  ·subst h;rw[digs_zero];rfl
  ·rw[digs_pos hb h,vL,ih (n / b) (Nat.div_lt_self (by omega) (by omega))]
   exact Nat.mod_add_div n b
theorem digs_lt{b:Nat} (hb:2<=b) (n:Nat):∀d∈digs b n,d < b:=by
 induction n using Nat.strongRecOn with
 | _ n ih =>
  intro d hd;by_cases h:n=0
  ·subst h;rw[digs_zero] at hd;cases hd
  ·rw[digs_pos hb h] at hd;rcases List.mem_cons.1 hd with rfl | hd
   ·exact Nat.mod_lt _ (by omega)
   ·exact ih (n / b) (Nat.div_lt_self (by omega) (by omega)) d hd
theorem digs_trim{b:Nat} (hb:2<=b) (n:Nat):trimL (digs b n)=digs b n:=by
 have:=digs_vL hb (digs_lt hb n);rw[vL_digs hb] at this;exact this.symm
theorem digs_len_le{b n k:Nat} (hb:2<=b) (h:n < b ^ k):(digs b n).length<=k:=by
 induction k generalizing n with
 | zero =>
  have:n=0:=by simpa using h
  subst this;rw[digs_zero];simp
 | succ k ih =>
  by_cases h0:n=0
  ·subst h0;rw[digs_zero];simp
  ·rw[digs_pos hb h0,List.length_cons];have:=ih (n:=n / b) (by
    rw[Nat.pow_succ,Nat.mul_comm] at h;exact Nat.div_lt_of_lt_mul h)
   omega
theorem digs_nil{b n:Nat} (hb:2<=b):digs b n=[]↔n=0:=by
 constructor
 ·intro h;rw[<- vL_digs hb n,h];rfl
 ·rintro rfl;exact digs_zero b
theorem lt_of_len{b:Nat} (hb:2<=b) {m n:Nat} (h:(digs b m).length < (digs b n).length):m < n:=by
 rcases Nat.lt_or_ge m n with h1 | h1
 ·exact h1
 ·have h2:n < b ^ (digs b m).length:=by
   have:=vL_lt (show 0 < b by omega) (digs_lt hb m)
   rw[vL_digs hb] at this;omega
  have:=digs_len_le hb h2;omega
theorem guess_top{P V K t v1 tp:Nat} (hV:v1*K<=V) (hP:P < (tp+1)*K) (ht:t*V<=P):t*v1<=tp:=by
 have h1:t*v1*K<=t*V:=by rw[Nat.mul_assoc];exact Nat.mul_le_mul_left _ hV
 have h2:t*v1*K < (tp+1)*K:=by omega
 have h3:=Nat.lt_of_mul_lt_mul_right h2;omega
theorem guess_div{P V K t v1 tp:Nat} (h0:0 < v1) (hV:v1*K<=V) (hP:P < (tp+1)*K) (ht:t*V<=P):t<=tp / v1 :=
 (Nat.le_div_iff_mul_le h0).2 (guess_top hV hP ht)
theorem guess_less{P V K2 b g v1 v0 tp r left t:Nat} (hV:(v1*b+v0)*K2<=V) (hP:P < (tp*b+r+1)*K2) (hl:left+g*v1=tp) (hg:left*b+r < g*v0) (ht:t*V<=P) (_hK:0 < K2):t+1<=g:=by
 have h1:tp*b+r+1<=g*(v1*b+v0):=by
  rw[Nat.mul_add,<- Nat.mul_assoc,<- hl,Nat.add_mul];omega
 have h2:(tp*b+r+1)*K2<=g*(v1*b+v0)*K2:=Nat.mul_le_mul_right _ h1;have h3:g*(v1*b+v0)*K2<=g*V:=by rw[Nat.mul_assoc];exact Nat.mul_le_mul_left _ hV
 have h4:t*V < g*V:=by omega
 exact Nat.lt_of_mul_lt_mul_right h4
theorem digit_found{P V g t:Nat} (hV:0 < V) (ht:t=P / V) (h1:g*V<=P) (h2:t<=g):g=t:=by
 have h3:g<=P / V:=(Nat.le_div_iff_mul_le hV).2 h1;omega
theorem vL_cons(b d:Nat) (l:List Nat):vL b (d::l)=d+b*vL b l:=rfl
theorem vL_top{b:Nat} (hb:0 < b) {l:List Nat} {d:Nat} (h:∀x∈l++[d],x < b):d*b ^ l.length<=vL b (l++[d])/\vL b (l++[d]) < (d+1)*b ^ l.length:=by
 rw[vL_snoc];have h1:=vL_lt hb (l:=l) fun x hx=>h x (List.mem_append_left _ hx)
 rw[Nat.mul_comm d,Nat.add_mul,Nat.mul_comm d,Nat.one_mul];omega
theorem vL_top2{b:Nat} (hb:0 < b) {l:List Nat} {c d:Nat} (h:∀x∈l++[c,d],x < b):(d*b+c)*b ^ l.length<=vL b (l++[c,d])/\vL b (l++[c,d]) < (d*b+c+1)*b ^ l.length:=by
 rw[vL_app];have h1:=vL_lt hb (l:=l) fun x hx=>h x (List.mem_append_left _ hx)
 have e:vL b [c,d]=d*b+c:=by simp[vL];rw[Nat.mul_comm];omega
 rw[e,Nat.mul_comm (b ^ l.length)];rw[Nat.add_mul (d*b+c) 1,Nat.one_mul];omega
theorem vL_top3{b:Nat} (hb:0 < b) {l:List Nat} {r c d:Nat} (h:∀x∈l++[r,c,d],x < b):vL b (l++[r,c,d]) < ((d*b+c)*b+r+1)*b ^ l.length:=by
 rw[vL_app];have h1:=vL_lt hb (l:=l) fun x hx=>h x (List.mem_append_left _ hx)
 have e:vL b [r,c,d]=(d*b+c)*b+r:=by
  simp only[vL,Nat.mul_zero,Nat.add_zero];rw[Nat.mul_add,Nat.add_mul,Nat.mul_comm b c,Nat.mul_comm d b,Nat.mul_assoc b d b,Nat.mul_comm d b];omega
 rw[e,Nat.mul_comm (b ^ l.length),Nat.add_mul ((d*b+c)*b+r) 1,Nat.one_mul];omega
def digAt (l:List Nat) (k:Nat):Nat:=l.getD k 0
theorem digAt_lt{b:Nat} (hb:0 < b) {l:List Nat} (h:∀d∈l,d < b) (k:Nat):digAt l k < b:=by
 unfold digAt;rw[List.getD_eq_getElem?_getD];cases hk:l[k]? with
 | none=>exact hb
 | some d=>exact h d (List.mem_of_getElem? hk)
theorem digAt_some{l:List Nat} {k d:Nat} (h:l[k]? = some d):digAt l k=d:=by
 unfold digAt;rw[List.getD_eq_getElem?_getD,h];rfl
theorem digAt_none{l:List Nat} {k:Nat} (h:l.length<=k):digAt l k=0:=by
 unfold digAt;rw[List.getD_eq_getElem?_getD,List.getElem?_eq_none h];rfl
theorem take_succ(b:Nat) (l:List Nat) (k:Nat):vL b (l.take (k+1))=vL b (l.take k)+b ^ k*digAt l k:=by
 rcases Nat.lt_or_ge k l.length with h | h
 ·obtain⟨d,hd⟩ : ∃d,l[k]? = some d:=⟨l[k],List.getElem?_eq_getElem h⟩;rw[List.take_add_one,hd,Option.toList_some,vL_snoc,List.length_take,Nat.min_eq_left (by omega),digAt_some hd]
 ·rw[digAt_none h,List.take_of_length_le (by omega),List.take_of_length_le h];simp
theorem take_all{l:List Nat} {k:Nat} (h:l.length<=k):l.take k=l:=List.take_of_length_le h
structure Plus (b:Nat) (x y:List Nat) (k:Nat) (L:List Nat) (c:Nat):Prop where
 len:L.length=k
 dig:∀d∈L,d < b
 car:c<=1
 val:vL b L+b ^ k*c=vL b (x.take k)+vL b (y.take k)
theorem Plus.start(b:Nat) (x y:List Nat):Plus b x y 0 [] 0:=⟨rfl,fun _ h=>(by cases h),by omega,by simp[vL]⟩
theorem Plus.step{b:Nat} {x y L:List Nat} {k c:Nat} (hb:2<=b) (hx:∀d∈x,d < b) (hy:∀d∈y,d < b) (h:Plus b x y k L c):Plus b x y (k+1) (L++[(digAt x k+digAt y k+c) % b]) ((digAt x k+digAt y k+c) / b):=by
 have h1:=digAt_lt (by omega) hx k
 have h2:=digAt_lt (by omega) hy k
 have h3:=h.car;refine⟨by rw[List.length_append,h.len];rfl,fun d hd=>?_,?_,?_⟩
 ·rcases List.mem_append.1 hd with hd | hd
  ·exact h.dig d hd
  ·rw[List.mem_singleton.1 hd];exact Nat.mod_lt _ (by omega)
 ·have:digAt x k+digAt y k+c < 2*b:=by omega
  have:=Nat.div_lt_of_lt_mul (show digAt x k+digAt y k+c < b*2 by omega)
  omega
 ·have hv:=h.val;rw[vL_snoc,h.len,take_succ,take_succ,Nat.pow_succ,Nat.mul_assoc];have e:=Nat.mod_add_div (digAt x k+digAt y k+c) b;have e2:b ^ k*((digAt x k+digAt y k+c) % b)+b ^ k*(b*((digAt x k+digAt y k+c) / b))=b ^ k*digAt x k+b ^ k*digAt y k+b ^ k*c:=by
   rw[<- Nat.mul_add,e,Nat.mul_add,Nat.mul_add]
  omega
theorem Plus.done{b:Nat} {x y L:List Nat} {k c:Nat} (hb:2<=b) (hx:∀d∈x,d < b) (hy:∀d∈y,d < b) (hk:k=max x.length y.length+1) (h:Plus b x y k L c):vL b L=vL b x+vL b y/\∀d∈L,d < b:=by
 have hv:=h.val;rw[take_all (by omega),take_all (by omega)] at hv
 have h1:=vL_lt (show 0 < b by omega) hx
 have h2:=vL_lt (show 0 < b by omega) hy
 have h3:b ^ x.length<=b ^ max x.length y.length:=Nat.pow_le_pow_right (by omega) (by omega)
 have h4:b ^ y.length<=b ^ max x.length y.length:=Nat.pow_le_pow_right (by omega) (by omega)
 have hc:c=0:=by
  rcases Nat.eq_zero_or_pos c with h0 | h0
  ·exact h0
  ·exfalso;have h5:b ^ k*1<=b ^ k*c:=Nat.mul_le_mul_left _ h0;rw[hk,Nat.pow_succ] at h5;have h6:b ^ max x.length y.length*2<=b ^ max x.length y.length*b:=Nat.mul_le_mul_left _ hb;rw[hk,Nat.pow_succ] at hv;omega
 rw[hc] at hv;exact⟨by omega,h.dig⟩
structure Minus (b:Nat) (x y:List Nat) (k:Nat) (L:List Nat) (c:Nat):Prop where
 len:L.length=k
 dig:∀d∈L,d < b
 car:c<=1
 val:vL b L+vL b (y.take k)=vL b (x.take k)+b ^ k*c
theorem Minus.start(b:Nat) (x y:List Nat):Minus b x y 0 [] 0:=⟨rfl,fun _ h=>(by cases h),by omega,by simp[vL]⟩
def subD (b u v c:Nat):Nat:=if u < v+c then u+b-(v+c) else u-(v+c)
def subC (u v c:Nat):Nat:=if u < v+c then 1 else 0
theorem Minus.step{b:Nat} {x y L:List Nat} {k c:Nat} (hb:2<=b) (hx:∀d∈x,d < b) (hy:∀d∈y,d < b) (h:Minus b x y k L c):Minus b x y (k+1) (L++[subD b (digAt x k) (digAt y k) c]) (subC (digAt x k) (digAt y k) c):=by
 have h1:=digAt_lt (by omega) hx k
 have h2:=digAt_lt (by omega) hy k
 have h3:=h.car;have hd0:subD b (digAt x k) (digAt y k) c < b:=by unfold subD;split <;> omega
 refine⟨by rw[List.length_append,h.len];rfl,fun d hd=>?_,by unfold subC;split <;> omega,?_⟩
 ·rcases List.mem_append.1 hd with hd | hd
  ·exact h.dig d hd
  ·rw[List.mem_singleton.1 hd];exact hd0
 ·have hv:=h.val;rw[vL_snoc,h.len,take_succ,take_succ,Nat.pow_succ,Nat.mul_assoc];have e:subD b (digAt x k) (digAt y k) c+digAt y k+c=digAt x k+b*subC (digAt x k) (digAt y k) c:=by
   unfold subD subC;split <;> omega
  have e2:=congrArg (fun z=>b ^ k*z) e
  simp only[Nat.mul_add] at e2;omega
theorem Minus.done{b:Nat} {x y L:List Nat} {k c:Nat} (hb:2<=b) (hk:k=x.length) (hl:y.length<=x.length) (hle:vL b y<=vL b x) (h:Minus b x y k L c):vL b L=vL b x-vL b y/\∀d∈L,d < b:=by
 have hv:=h.val;rw[take_all (by omega),take_all (by omega)] at hv
 have h1:=vL_lt (show 0 < b by omega) h.dig
 rw[h.len] at h1;have hc:c=0:=by
  rcases Nat.eq_zero_or_pos c with h0 | h0
  ·exact h0
  ·have h5:b ^ k*1<=b ^ k*c:=Nat.mul_le_mul_left _ h0;omega
 rw[hc] at hv;exact⟨by omega,h.dig⟩
theorem vL_set(b:Nat):∀(l:List Nat) (i v:Nat),i < l.length->vL b (l.set i v)+b ^ i*digAt l i=vL b l+b ^ i*v
 | [],_,_,h=>by simp at h
 | d::l,0,v,_=>by
  simp[vL,digAt];omega
 | d::l,i+1,v,h=>by
  have ih:=vL_set b l i v (by simpa using h)
  have e:digAt (d::l) (i+1)=digAt l i:=rfl;rw[zz5,vL,vL,e,Nat.pow_succ,Nat.mul_comm (b ^ i) b,Nat.mul_assoc,Nat.mul_assoc];have e2:=congrArg (fun z=>b*z) ih
  simp only[Nat.mul_add] at e2;omega
theorem set_lt{b:Nat} {l:List Nat} {i v:Nat} (h:∀d∈l,d < b) (hv:v < b):∀d∈l.set i v,d < b:=fun d hd=>by
 rcases List.mem_or_eq_of_mem_set hd with h1 | h1
 ·exact h d h1
 ·rw[h1];exact hv
theorem vL_zeros(b:Nat):∀n:Nat,vL b (List.replicate n 0)=0
 | 0=>rfl
 | n+1=>by rw[List.replicate_succ,vL,vL_zeros b n];simp
theorem digAt_set_ne{l:List Nat} {i j v:Nat} (h:i≠j):digAt (l.set i v) j=digAt l j:=by
 unfold digAt;rw[List.getD_eq_getElem?_getD,List.getD_eq_getElem?_getD,List.getElem?_set_ne h]
theorem digAt_set{l:List Nat} {i v:Nat} (h:i < l.length):digAt (l.set i v) i=v:=by
 unfold digAt;rw[List.getD_eq_getElem?_getD,List.getElem?_set_self h];rfl
structure Row (b:Nat) (y out0:List Nat) (a i k:Nat) (out:List Nat) (c:Nat):Prop where
 len:out.length=out0.length
 dig:∀d∈out,d < b
 car:c < b
 val:vL b out+b ^ (i+k)*c=vL b out0+b ^ i*(a*vL b (y.take k))
theorem Row.start{b:Nat} {y out0:List Nat} {a i:Nat} (hb:0 < b) (h:∀d∈out0,d < b):Row b y out0 a i 0 out0 0:=⟨rfl,h,hb,by simp[vL]⟩
theorem Row.step{b:Nat} {y out0 out:List Nat} {a i k c:Nat} (hb:2<=b) (ha:a < b) (hy:∀d∈y,d < b) (hi:i+k < out0.length) (h:Row b y out0 a i k out c) :
  a*digAt y k+digAt out (i+k)+c < b*b/\Row b y out0 a i (k+1) (out.set (i+k) ((a*digAt y k+digAt out (i+k)+c) % b)) ((a*digAt y k+digAt out (i+k)+c) / b):=by
 have h1:=digAt_lt (by omega) hy k
 have h2:=digAt_lt (by omega) h.dig (i+k)
 have h3:=h.car;have hs:a*digAt y k+digAt out (i+k)+c < b*b:=by
  have h4:a*digAt y k<=(b-1)*(b-1):=Nat.mul_le_mul (by omega) (by omega)
  obtain⟨m,rfl⟩ : ∃m,b=m+1:=⟨b-1,by omega⟩
  rw[Nat.add_sub_cancel] at h4;have e:(m+1)*(m+1)=m*m+m+m+1:=by rw[Nat.add_mul,Nat.mul_add];omega
  omega
 refine⟨hs,by rw[List.length_set,h.len],set_lt h.dig (Nat.mod_lt _ (by omega)),Nat.div_lt_of_lt_mul hs,?_⟩
 have hv:=h.val;have e1:=vL_set b out (i+k) ((a*digAt y k+digAt out (i+k)+c) % b) (by rw[h.len];exact hi)
 have e:=Nat.mod_add_div (a*digAt y k+digAt out (i+k)+c) b;have e2:=congrArg (fun z=>b ^ (i+k)*z) e
 simp only[Nat.mul_add] at e2;rw[take_succ,Nat.mul_add,Nat.mul_add,<- Nat.add_assoc i k 1,Nat.pow_succ,Nat.mul_assoc (b ^ (i+k)) b];have e3:b ^ i*(a*(b ^ k*digAt y k))=b ^ (i+k)*(a*digAt y k):=by
  rw[Nat.pow_add,Nat.mul_left_comm a,Nat.mul_assoc]
 rw[e3];omega
theorem Row.inside{b:Nat} {y out0 out:List Nat} {a i k c n:Nat} (hb:2<=b) (h:Row b y out0 a i k out c) (hn:vL b out0+b ^ i*(a*vL b y) < b ^ n) (hc:0 < c):i+k < n:=by
 have hv:=h.val;have h1:vL b (y.take k)<=vL b y:=by
  have:vL b y=vL b (y.take k)+b ^ (y.take k).length*vL b (y.drop k):=by rw[<- vL_app,List.take_append_drop]
  omega
 have h2:b ^ i*(a*vL b (y.take k))<=b ^ i*(a*vL b y):=Nat.mul_le_mul_left _ (Nat.mul_le_mul_left _ h1);have h3:b ^ (i+k)*1<=b ^ (i+k)*c:=Nat.mul_le_mul_left _ hc;rcases Nat.lt_or_ge (i+k) n with h4 | h4
 ·exact h4
 ·have h5:b ^ n<=b ^ (i+k):=Nat.pow_le_pow_right (by omega) h4
  omega
theorem Row.done{b:Nat} {y out0 out:List Nat} {a i k:Nat} (hk:y.length<=k) (h:Row b y out0 a i k out 0):vL b out=vL b out0+b ^ i*(a*vL b y):=by
 have hv:=h.val;rw[take_all hk] at hv;omega
theorem rows_step{b:Nat} {x y:List Nat} {i a:Nat} (h:x[i]? = some a):vL b (x.take (i+1))*vL b y=vL b (x.take i)*vL b y+b ^ i*(a*vL b y):=by
 rw[take_succ,digAt_some h,Nat.add_mul,Nat.mul_assoc]
theorem rows_lt{b:Nat} (hb:2<=b) {x y:List Nat} (hx:∀d∈x,d < b) (hy:∀d∈y,d < b) {i a:Nat} (h:x[i]? = some a):vL b (x.take i)*vL b y+b ^ i*(a*vL b y) < b ^ (x.length+y.length):=by
 rw[<- rows_step h];have hi:i < x.length:=(List.getElem?_eq_some_iff.1 h).1;have h1:=vL_lt (show 0 < b by omega) (l:=x.take (i+1)) fun d hd=>hx d (List.mem_of_mem_take hd)
 have h2:=vL_lt (show 0 < b by omega) hy
 rw[List.length_take,Nat.min_eq_left (by omega)] at h1
 have h3:b ^ (i+1)<=b ^ x.length:=Nat.pow_le_pow_right (by omega) (by omega)
 rw[Nat.pow_add];have h4:0 < b ^ x.length:=Nat.pow_pos (by omega)
 calc vL b (x.take (i+1))*vL b y<=b ^ x.length*vL b y:=Nat.mul_le_mul_right _ (by omega)
  _ < b ^ x.length*b ^ y.length:=Nat.mul_lt_mul_of_pos_left h2 h4
structure Sml (b by_:Nat) (x:List Nat) (k:Nat) (q:List Nat) (r:Nat):Prop where
 len:q.length+k=x.length
 dig:∀d∈q,d < b
 rem:r < by_
 val:vL b (x.drop k)=by_*vL b q+r
theorem Sml.start{b by_:Nat} {x:List Nat} (h:0 < by_):Sml b by_ x x.length [] 0:=⟨by simp,fun _ h=>(by cases h),h,by simp[vL]⟩
theorem Sml.step{b by_:Nat} {x q:List Nat} {k r d:Nat} (hd:x[k]? = some d) (hdb:d < b) (h:Sml b by_ x (k+1) q r):r*b+d < by_*b/\Sml b by_ x k ((r*b+d) / by_::q) ((r*b+d) % by_):=by
 have h1:=h.rem;have hs:r*b+d < by_*b:=by
  have h2:(r+1)*b<=by_*b:=Nat.mul_le_mul_right _ h1;rw[Nat.add_mul] at h2;omega
 have hk:k < x.length:=(List.getElem?_eq_some_iff.1 hd).1;refine⟨hs,by have:=h.len;simp;omega,fun e he=>?_,Nat.mod_lt _ (by omega),?_⟩
 ·rcases List.mem_cons.1 he with rfl | he
  ·exact Nat.div_lt_of_lt_mul hs
  ·exact h.dig e he
 ·rw[List.drop_eq_getElem_cons hk];rw[List.getElem?_eq_getElem hk] at hd;cases hd
  have hv:=h.val;rw[vL,hv,vL,Nat.mul_add,Nat.mul_add];have e:=Nat.div_add_mod (r*b+x[k]) by_;have e2:b*(by_*vL b q)=by_*(b*vL b q):=Nat.mul_left_comm _ _ _;have e3:b*r=r*b:=Nat.mul_comm _ _;omega
theorem Sml.done{b by_:Nat} {x q:List Nat} {r:Nat} (h:Sml b by_ x 0 q r):vL b q=vL b x / by_/\r=vL b x % by_:=by
 have hv:=h.val;rw[List.drop_zero] at hv;have hr:=h.rem;rw[hv];constructor
 ·rw[Nat.mul_add_div (by omega),Nat.div_eq_of_lt hr,Nat.add_zero]
 ·rw[Nat.mul_add_mod,Nat.mod_eq_of_lt hr]
theorem cmp_digits{b:Nat} {x y:List Nat} {k u v:Nat} (hx:∀d∈x,d < b) (hy:∀d∈y,d < b) (hu:x[k]? = some u) (hv:y[k]? = some v) (ht:x.drop (k+1)=y.drop (k+1)):(u < v->vL b x < vL b y)/\(v < u->vL b y < vL b x)/\(u=v->x.drop k=y.drop k):=by
 have hkx:k < x.length:=(List.getElem?_eq_some_iff.1 hu).1;have hky:k < y.length:=(List.getElem?_eq_some_iff.1 hv).1;have hb:0 < b:=by have:=hx u (List.mem_of_getElem? hu);omega
 have ex:vL b x=vL b (x.take k)+b ^ k*u+b ^ (k+1)*vL b (x.drop (k+1)):=by
  have:vL b x=vL b (x.take (k+1))+b ^ (x.take (k+1)).length*vL b (x.drop (k+1)):=by rw[<- vL_app,List.take_append_drop]
  rw[this,take_succ,digAt_some hu,List.length_take,Nat.min_eq_left (by omega)]
 have ey:vL b y=vL b (y.take k)+b ^ k*v+b ^ (k+1)*vL b (y.drop (k+1)):=by
  have:vL b y=vL b (y.take (k+1))+b ^ (y.take (k+1)).length*vL b (y.drop (k+1)):=by rw[<- vL_app,List.take_append_drop]
  rw[this,take_succ,digAt_some hv,List.length_take,Nat.min_eq_left (by omega)]
 have lx:=vL_lt hb (l:=x.take k) fun d hd=>hx d (List.mem_of_mem_take hd)
 have ly:=vL_lt hb (l:=y.take k) fun d hd=>hy d (List.mem_of_mem_take hd)
 rw[List.length_take,Nat.min_eq_left (by omega)] at lx ly
 rw[ex,ey,ht];refine⟨fun h=>?_,fun h=>?_,fun h=>?_⟩
 ·have h1:b ^ k*(u+1)<=b ^ k*v:=Nat.mul_le_mul_left _ h;rw[Nat.mul_add,Nat.mul_one] at h1;omega
 ·have h1:b ^ k*(v+1)<=b ^ k*u:=Nat.mul_le_mul_left _ h;rw[Nat.mul_add,Nat.mul_one] at h1;omega
 ·rw[List.drop_eq_getElem_cons hkx,List.drop_eq_getElem_cons hky,ht];rw[List.getElem?_eq_getElem hkx] at hu;rw[List.getElem?_eq_getElem hky] at hv;cases hu;cases hv
  rw[h]
theorem trim_len_lt{b:Nat} (hb:2<=b) {x y:List Nat} (hx:∀d∈x,d < b) (hy:∀d∈y,d < b) (tx:trimL x=x) (ty:trimL y=y) (h:x.length < y.length):vL b x < vL b y:=by
 have h1:=digs_vL hb hx;have h2:=digs_vL hb hy;rw[tx] at h1;rw[ty] at h2;exact lt_of_len hb (by rw[h1,h2];exact h)
open Go Go.Proofs Go.RowKit
theorem wide_skip{F:Fence} {n:Nat} {P:Program} {ops:Array Oper} {Q:Exit->Act->World->Prop} {o:Oper} {rest:List Oper} {a:Act} {w:World} (hF:∀f,F.fn f) (hw:Region.wanted o (yielded ops a.tmps)=false) (h:wpListIn F n P ops Q rest (a.put o.dst undef) w):wpListIn F n P ops Q (o::rest) a w:=by
 simp only[wpListIn,hw];exact⟨fun f _=>hF f,h⟩
structure Turned (C:Nat->Prop) (A B:World):Prop where
 os:B.os=A.os
 tape:B.tape=A.tape
 output:B.output=A.output
 size:A.heap.size<=B.heap.size
 block:∀k,k < A.heap.size->¬C k->B.heap[k]? = A.heap[k]?
theorem Turned.refl(C:Nat->Prop) (A:World):Turned C A A:=⟨rfl,rfl,rfl,Nat.le_refl _,fun _ _ _=>rfl⟩
theorem zr(A:World):Turned (fun _=>False) A A:=Turned.refl _ A
theorem Turned.trans{C:Nat->Prop} {a b c:World} (h:Turned C a b) (k:Turned C b c):Turned C a c :=
 ⟨k.os.trans h.os,k.tape.trans h.tape,k.output.trans h.output,Nat.le_trans h.size k.size,fun i hi hc=>(k.block i (Nat.lt_of_lt_of_le hi h.size) hc).trans (h.block i hi hc)⟩
theorem Turned.mono{C C':Nat->Prop} {a b:World} (h:Turned C a b) (hc:∀k,C k->C' k):Turned C' a b:=⟨h.os,h.tape,h.output,h.size,fun i hi hn=>h.block i hi (fun x=>hn (hc i x))⟩
theorem Turned.alloc{C:Nat->Prop} {a w:World} (h:Turned C a w) (o:Obj):Turned C a (w.alloc o) :=
 h.trans ⟨rfl,rfl,rfl,by simp,fun k hk _=>Below.heap_alloc _ _ _ hk⟩
theorem Turned.setCell{C:Nat->Prop} {a w:World} (h:Turned C a w) {p:Addr} (hp:C p.block) (u:Value):Turned C a (w.setCell p u) :=
 h.trans ⟨rfl,rfl,rfl,by simp[World.setCell],fun k _ hn=>Below.heap_setCell _ _ _ _ (fun e=>hn (e▸hp))⟩
theorem Turned.drew{C:Nat->Prop} {a w:World} (h:Turned C a w):Turned C a w.drew:=⟨h.os,h.tape,h.output,h.size,h.block⟩
theorem Turned.putObj{C:Nat->Prop} {a w:World} (h:Turned C a w) {r:Nat} (hr:C r) (o:Obj):Turned C a (w.putObj r o) :=
 h.trans ⟨rfl,rfl,rfl,by simp,fun k _ hn=>World.putObj_heap_other (fun e=>hn (e▸hr))⟩
theorem Turned.below{C:Nat->Prop} {a b:World} (h:Turned C a b) {B:Nat} (hB:B<=a.heap.size) (hc:∀k,C k->B<=k):Below B a b:=⟨h.os,h.tape,h.output,h.size,fun k hk=>h.block k (by omega) (fun x=>by have:=hc k x;omega)⟩
theorem Turned.of_new{C:Nat->Prop} {a b:World} (h:Below a.heap.size a b):Turned C a b:=⟨h.os,h.tape,h.output,h.size,fun k hk _=>h.block k hk⟩
theorem Turned.of_grown{C:Nat->Prop} {a b:World} {row:Option Nat} (h:a.grownBy b row) (hr:∀k,row=some k->C k):Turned C a b :=
 ⟨h.os,h.tape,h.output,h.size,fun k hk hn=>h.block k hk (fun e=>hn (hr k e.symm))⟩
structure Kept (T:Nat->Prop) (A B:World):Prop where
 size:A.heap.size<=B.heap.size
 block:∀k,T k->B.heap[k]? = A.heap[k]?
theorem Kept.refl(T:Nat->Prop) (A:World):Kept T A A:=⟨Nat.le_refl _,fun _ _=>rfl⟩
theorem Turned.kept{C T:Nat->Prop} {a b:World} (h:Turned C a b) (ht:∀k,T k->k < a.heap.size/\¬C k):Kept T a b:=⟨h.size,fun k hk=>h.block k (ht k hk).1 (ht k hk).2⟩
def bodyLeft (T:Nat->Prop) (I:World->Prop) (Ix:Code->World->Prop) (W:World):Exit->Act->World->Prop
 | .normal,_,W'=>Kept T W W'/\I W'
 | .ret,_,W'=>Kept T W W'/\Ix .ret W'
 | .exit id,_,W'=>Kept T W W'/\Ix (.exit id) W'
 | .goto t,_,W'=>Kept T W W'/\Ix (.goto t) W'
 | .panic _,_,_=>False
 | .outgrown,_,_=>False
theorem getElem?_lt{w:World} {k:Nat} {o:Obj} (h:w.heap[k]? = some o):k < w.heap.size:=(Array.getElem?_eq_some_iff.1 h).1
theorem ownsRow_turned{C:Nat->Prop} {A B:World} {base e size n:Nat} {v:Value} {xs:List Value} (ht:Turned C A B) (hC:∀k,C k->k < base) (h:A.ownsRow base e size v n xs):B.ownsRow base e size v n xs:=by
 obtain⟨h1,h2⟩:=h;refine⟨h1,?_⟩;rcases h2 with h2 | ⟨g,cap,cur,hv,hg,hh,r⟩
 ·exact .inl h2
 ·exact .inr ⟨g,cap,cur,hv,hg,(ht.block g (getElem?_lt hh) (fun h=>by have:=hC g h;omega)).trans hh,r⟩
theorem ownsRow_block{A:World} {base e size n:Nat} {v:Value} {xs:List Value} (h:A.ownsRow base e size v n xs):∀g,v.ownBlock=some g->base<=g/\g < A.heap.size:=by
 intro g hg;obtain⟨-,h2⟩:=h;rcases h2 with⟨rfl,-⟩ | ⟨g',cap,cur,rfl,hb,hh,-⟩
 ·simp[Value.ownBlock] at hg
 ·simp[Value.ownBlock] at hg;subst hg;exact⟨hb,getElem?_lt hh⟩
def Out {α:Type} (W:World) (B T base N e size:Nat) (enc:α->List Value) (bs:List α):Prop :=
 ∃v,W.heap[B]? = some (.cells #[v] T (0,0))/\W.ownsRow base e size v bs.length (bs.flatMap enc)/\(∀g,v.ownBlock=some g->g < N)/\B < N
section
variable {α:Type} {W:World} {B T base N e size:Nat} {enc:α->List Value} {bs:List α}
end
theorem cell_of_box{W:World} {B T:Nat} {v:Value} (h:W.heap[B]? = some (.cells #[v] T (0,0))):W.cell? ⟨B,0,none⟩=some v:=by simp[World.cell?,h]
theorem free_of_box{W:World} {B T:Nat} {cs:Array Value} (h:W.heap[B]? = some (.cells cs T (0,0))) (o:Nat):W.frozen? ⟨B,o,none⟩=false:=by simp[World.frozen?,h]
theorem box_setCell{W:World} {B T:Nat} {v:Value} (u:Value) (h:W.heap[B]? = some (.cells #[v] T (0,0))):(W.setCell ⟨B,0,none⟩ u).heap[B]? = some (.cells #[u] T (0,0)):=by
 simp[World.setCell,Array.getElem?_modify,h]
theorem flatMap_at{α:Type} (enc:α->List Value) (s:Nat) (henc:∀x,(enc x).length=s):∀(bs:List α) (i j:Nat) (hi:i < bs.length),j < s->(bs.flatMap enc)[i*s+j]? = (enc bs[i])[j]?
 | [],i,j,hi,_=>by simp at hi
 | b::bs,0,j,_,hj=>by
  simp only[List.flatMap_cons,Nat.zero_mul,Nat.zero_add,zz1];rw[List.getElem?_append_left (by rw[henc];exact hj)]
 | b::bs,i+1,j,hi,hj=>by
  simp only[List.flatMap_cons,zz2];rw[List.getElem?_append_right (by rw[henc,Nat.add_mul];omega),henc,<- flatMap_at enc s henc bs i j (by simpa using hi) hj]
  congr 1
  rw[Nat.add_mul];omega
theorem owns_shape{W:World} {base e s n:Nat} {xs:List Value} {v:Value} (h:W.ownsRow base e s v n xs):∃a c,v=.slice a n c:=by
 obtain⟨-,⟨rfl,rfl⟩ | ⟨g,cap,cur,rfl,-⟩⟩:=h
 ·exact⟨none,0,rfl⟩
 ·exact⟨_,cap,rfl⟩
def Lays (W:World) (L:List (Nat×Obj)):Prop:=∀p∈L,W.heap[p.1]? = some p.2
def Stays (T:World->Prop):Prop:=∀A B,T A->Below A.heap.size A B->T B
structure St (T:World->Prop) (w W:World) (L:List (Nat×Obj)):Prop where
 lays:Lays W L
 bel:Below w.heap.size w W
 tab:T W
 stays:Stays T
section
variable {T R:World->Prop} {w W W':World} {L:List (Nat×Obj)}
end
section
variable {P:Program} {ops:Array Oper} {Q:Exit->Act->World->Prop} {md:Region.Mode} {l n:Nat}
end
section
variable {P:Program}
theorem run_append_exact(w:World) (base:Nat) (t ty e:TypeId) (i:TypeInfo) (z:Value) (size bytes:Nat) (ht:P.underlying t=some (.slice e)) (hi:P.info? e=some i) (hz:i.zero=some z)
  (hsize:i.size=size) (hby:i.bytes=bytes) (hzs:z.cells.size=size) (hsz:0 < size)
  (v:Value) (n:Nat) (xs:List Value) (hown:w.ownsRow base e size v n xs)
  (a:Addr) (m c:Nat) (news:List Value) (hl:news.length=m*size) (hnews:∀j u,news[j]? = some u->w.cell? (a.add j)=some u) (h1:∀u∈news,u.oneCell'=true)
  (h63:n+m<=maxLen) (hbytes:(n+m)*bytes<=140737488355328) (hbase:base<=w.heap.size) :
  ∃v' w',(Builtin.append_ #[t,t] ty #[v,.slice (some a) m c]).run P w=.ok v' w'/\w'.ownsRow base e size v' (n+m) (xs++news)/\w.grownBy w' v.ownBlock /\
   (∀g,v'.ownBlock=some g->v.ownBlock=some g\/w.heap.size<=g):=by
 obtain⟨v',w',hrun,r1,r2,-⟩:=run_append_own (P:=P) w base t ty e i z size bytes ht hi hz hsize hby hzs hsz v n xs hown a m c news hl hnews h1 h63 hbytes hbase;refine⟨v',w',hrun,r1,r2,?_⟩;have new:∀v'' w'',(Builtin.append_ #[t,t] ty #[v,.slice (some a) m c]).run P w=.ok v'' w''->w''.ownsRow w.heap.size e size v'' (n+m) (xs++news)->∀g,v'.ownBlock=some g->w.heap.size<=g:=by
  intro v'' w'' hr ho g hg;rw[hrun] at hr;cases hr
  obtain⟨-,⟨rfl,-⟩ | ⟨g',cap',cur',rfl,hb,-⟩⟩:=ho
  ·simp[Value.ownBlock] at hg
  ·simp[Value.ownBlock] at hg;omega
 obtain⟨hlen,⟨rfl,rfl⟩ | ⟨g0,cap,cur,rfl,hb,hh,hc1,hc2,hcs,htk⟩⟩:=hown
 ·obtain⟨v'',w'',hr,ho,-,-⟩:=run_append_own (P:=P) w w.heap.size t ty e i z size bytes ht hi hz hsize hby hzs hsz (.slice none 0 0) 0 xs ⟨hlen,.inl ⟨rfl,rfl⟩⟩ a m c news hl hnews h1 h63 hbytes (Nat.le_refl _);exact fun g hg=>.inr (new v'' w'' hr ho g hg)
 ·have hcell:∀j u,cur.toList[j]? = some u->w.cell? ⟨g0,j,none⟩=some u:=fun j u hj=>by simpa [World.cell?,hh] using hj
  by_cases hr:n+m<=cap
  ·subst hsize;have hmul:(n+m)*i.size<=cap*i.size:=Nat.mul_le_mul_right _ hr;rw[Nat.add_mul] at hmul;have hrun2:=run_append_room_cells (P:=P) w t ty e i ht hi g0 0 n cap a m c news hl hnews h1 hr
    (fun j hj=>by
     have:0+n*i.size+j < cur.size:=by omega
     simp[World.cell?,hh,Array.getElem?_eq_getElem (by omega:n*i.size+j < cur.size)])
    (fun j hj=>by simp[World.frozen?,hh])
   rw[hrun] at hrun2;cases hrun2
   intro g hg;exact .inl hg
  ·obtain⟨v'',w'',hr2,ho,-⟩:=run_append_arg_grows (P:=P) w t ty e i z size bytes ht hi hz hsize hby hzs hsz ⟨g0,0,none⟩ n cap xs hlen
    (fun j u hj=>by
     rw[Addr.add_lit];simp only[Nat.zero_add];refine hcell j u ?_;rw[<- htk] at hj;have hlt:j < n*size:=by
      have:=(List.getElem?_eq_some_iff.1 hj).1;simp at this;omega
     rwa [List.getElem?_take_of_lt hlt] at hj)
    a m c news hl hnews (by omega) h63 hbytes
   exact fun g hg=>.inr (new v'' w'' hr2 ho g hg)
theorem wpList_append_exact(w:World) {ops:Array Oper} {rest:List Oper} {o:Oper} {a:Act} {Q:Exit->Act->World->Prop}
  (hg:o.guard=none) (s x:Operand) (t:TypeId) (hop:o.op=Op.call { callee:=Callee.builtin Builtin.append,args:=#[s,x],argTypes:=#[t,t] })
  (base:Nat) (e:TypeId) (i:TypeInfo) (z:Value) (size bytes:Nat) (h1:P.underlying t=some (.slice e)) (h2:P.info? e=some i) (h3:i.zero=some z) (h4:i.size=size) (h5:i.bytes=bytes) (h6:z.cells.size=size) (h7:0 < size)
  (v:Value) (k:Nat) (xs:List Value) (hs:a.eval s=v) (hown:w.ownsRow base e size v k xs) (ad:Addr) (m c:Nat) (news:List Value) (hx:a.eval x=.slice (some ad) m c) (hn:news.length=m*size)
  (hc:∀j u,news[j]? = some u->w.cell? (ad.add j)=some u) (h1c:∀u∈news,u.oneCell'=true) (b1:k+m<=maxLen) (b2:(k+m)*bytes<=140737488355328) (b3:base<=w.heap.size)
  (hK:∀v' w',w'.ownsRow base e size v' (k+m) (xs++news)->w.grownBy w' v.ownBlock->(∀g,v'.ownBlock=some g->v.ownBlock=some g\/w.heap.size<=g)->wpList P ops Q rest (a.put o.dst v') w') :
  wpList P ops Q (o::rest) a w:=by
 refine wpList_plain hg fun K hK'=>?_
 obtain⟨v',w',hrun,r1,r2,r3⟩:=run_append_exact (P:=P) w base t o.type e i z size bytes h1 h2 h3 h4 h5 h6 h7 v k xs hown ad m c news hn hc h1c b1 b2 b3;unfold Oper.wp;simp[execOp,hop,resolve,invoke,builtin,hs,hx,hrun,Result.andThen];exact hK' _ _ (hK v' w' r1 r2 r3)
end
def Col {α:Type} (W:World) (B T:Nat) (G:Nat->Prop) (e size:Nat) (enc:α->List Value) (bs:List α):Prop :=
 ∃v,W.heap[B]? = some (.cells #[v] T (0,0))/\W.ownsRow 0 e size v bs.length (bs.flatMap enc)/\(∀g,v.ownBlock=some g->G g)
section
variable {α:Type} {W:World} {B T e size:Nat} {G:Nat->Prop} {enc:α->List Value} {bs:List α}
end
abbrev bU:Nat:=4294967296
theorem cellT{C:Nat->Prop} {W W':World} (h:Turned C W W') {b o:Nat} {u:Value} (hb:¬C b) (hc:W.cell? ⟨b,o,none⟩=some u):W'.cell? ⟨b,o,none⟩=some u:=by
 have hlt:b < W.heap.size:=by
  rcases Nat.lt_or_ge b W.heap.size with h1 | h1
  ·exact h1
  ·simp[World.cell?,h1] at hc
 have hb2:=h.block b hlt hb;simp only[World.cell?] at hc ⊢;rw[hb2];exact hc
structure LA (W:World) (N:Nat->Prop) (l:List Nat) (p:Option Addr) (c:Nat):Prop where
 dig:∀d∈l,d < bU
 cap:l.length<=c
 mx:c<=maxLen
 cel:∀(i d:Nat),l[i]? = some d->∃b a,p=some ⟨b,a,none⟩/\N b/\W.cell? ⟨b,a+i,none⟩=some (.int .u32 d)
section
variable {W W':World} {N M:Nat->Prop} {l:List Nat} {p:Option Addr} {c:Nat}
theorem LA.nil(W:World) (N:Nat->Prop):LA W N [] none 0:=⟨fun _ h=>(by cases h),Nat.le_refl _,Nat.zero_le _,fun i d h=>by simp at h⟩
theorem LA.move(h:LA W N l p c) {C:Nat->Prop} (ht:Turned C W W') (hC:∀b,N b->¬C b) (hM:∀b,N b->M b):LA W' M l p c :=
 ⟨h.dig,h.cap,h.mx,fun i d hd=>by
  obtain⟨b,a,h1,h2,h3⟩:=h.cel i d hd;exact⟨b,a,h1,hM b h2,cellT ht (hC b h2) h3⟩⟩
theorem LA.turned(h:LA W N l p c) (ht:Turned (fun _=>False) W W'):LA W' N l p c:=h.move ht (fun _ _=>id) fun _=>id
theorem LA.take(h:LA W N l p c) (k:Nat):LA W N (l.take k) p c :=
 ⟨fun d hd=>h.dig d (List.mem_of_mem_take hd),by have:=h.cap;rw[List.length_take];omega,h.mx,fun i d hd=>by
  refine h.cel i d ?_;rw[List.getElem?_take] at hd;split at hd
  ·exact hd
  ·cases hd⟩
theorem LA.trim(h:LA W N l p c):LA W N (trimL l) p c:=by rw[trimL_take];exact h.take _
theorem LA.get(h:LA W N l p c) {i:Nat} (hi:i < l.length):∃b a d,p=some ⟨b,a,none⟩/\N b/\l[i]? = some d/\digAt l i=d/\d < 4294967296/\W.cell? ⟨b,a+i,none⟩=some (.int .u32 d):=by
 have hd:l[i]? = some l[i]:=List.getElem?_eq_getElem hi;obtain⟨b,a,h1,h2,h3⟩:=h.cel i _ hd;exact⟨b,a,l[i],h1,h2,hd,digAt_some hd,h.dig _ (List.getElem_mem hi),h3⟩
end
theorem drewN_turned(C:Nat->Prop) (W:World) (n:Nat):Turned C W (W.drewN n):=⟨rfl,rfl,rfl,Nat.le_refl _,fun _ _ _=>rfl⟩
theorem quiet_add_same{P:Program} {f:FuncId} {args:Array Value} {w:World} {a n:Nat} {v:Value}
  (h:Calls P f args (w.drewN (a+n)) fun e w'=>e=.returned v/\w'=w.drewN (a+n)) :
  Calls P f args (w.drewN (a+n)) fun e w''=>e=.returned v/\∃m,w''=w.drewN (a+m) :=
 h.mono fun _ _ ⟨he,hm⟩=>⟨he,n,hm⟩
attribute [local go_sem] Oper.semAt_some
theorem trim_any(l:List Nat) (p:Option Addr) (c:Nat) (W:World) (N:Nat->Prop) (h:LA W N l p c):Calls Tryz.prog 133 #[.slice p l.length c] W fun e w'=>e=.returned (.slice p (trimL l).length c)/\w'=W:=by
 have HL:=zh h;have hcap:=h.cap;have hmx:=h.mx;unfold maxLen at hmx;clear h;go_enter Tryz.func133,Tryz.ntmps133;go_wp2_with fail
 go_loopw [0] (fun v wr=>∃k:Nat,v=.slice p k c/\k<=l.length/\Hid (trimL (l.take k)=trimL l)/\wr=W) (fun v _=>match v with | .slice _ n _=>n | _=>0)
 case atStart=>exact⟨l.length,rfl,Nat.le_refl _,zh (by rw[List.take_length]),rfl⟩
 case round =>
  obtain⟨k,rfl,hk,HT,rfl⟩:=hrel;cases k with
  | zero =>
   have HR:Hid (trimL l=[]):=zh (by rw[<- HT.out];rfl)
   go_wp2_with fail;go_ret;rw[HR.out];exact⟨rfl,rfl⟩
  | succ j =>
   obtain⟨b,a,d,rfl,-,hd,-,hdb,d1⟩:=HL.out.get (i:=j) (by omega)
   have hpos:(0:Int) < ((j+1:Nat):Int):=by omega
   have hw:IntKind.i64.wrap (((j+1:Nat):Int)-1)=(j:Int):=by rw[IntWalk.i64_in _ (by omega)];omega
   have htk:l.take (j+1)=l.take j++[d]:=by rw[List.take_add_one,hd];rfl
   by_cases h0:d=0
   ·have HT2:Hid (trimL (l.take j)=trimL l):=zh (by rw[<- HT.out,htk,h0,trim_snoc_zero])
    subst h0;clear hd htk;go_wp2_with fail;refine⟨⟨j,rfl,by omega,HT2,trivial⟩,?_⟩
    show j < j+1;omega
   ·have HR:Hid (trimL l=l.take (j+1)):=zh (by rw[<- HT.out,htk,trim_snoc h0])
    have hdi:((d:Int) == 0)=false:=by simp;omega
    clear hd htk;go_wp2_with fail;go_ret;rw[HR.out,List.length_take,Nat.min_eq_left (by omega)]
    exact⟨rfl,rfl⟩
theorem at_any(l:List Nat) (p:Option Addr) (c k:Nat) (W:World) (N:Nat->Prop) (h:LA W N l p c):Calls Tryz.prog 166 #[.slice p l.length c,.int .i64 k] W fun e w'=>e=.returned (.int .u64 (digAt l k))/\w'=W:=by
 by_cases hk:k < l.length
 ·obtain⟨b,a,d,rfl,-,-,hd,hdb,d1⟩:=h.get hk;have hki:(k:Int) < (l.length:Int):=by omega
  have hcv:IntKind.u64.wrap (d:Int)=(d:Int):=IntWalk.u64_in _ (by omega)
  have HR:=zh hd;clear hd h;go_enter Tryz.func166,Tryz.ntmps166;go_wp2_with fail;go_ret;rw[HR.out];exact⟨rfl,rfl⟩
 ·have hki:¬(k:Int) < (l.length:Int):=by omega
  have HR:=zh (digAt_none (l:=l) (k:=k) (by omega))
  clear h hk;go_enter Tryz.func166,Tryz.ntmps166;go_wp2_with fail;go_ret;rw[HR.out];exact⟨rfl,rfl⟩
theorem nanU_any(x:Nat) (W:World):Calls Tryz.prog 174 #[.int .u32 x] W fun e w'=>e=.returned (.bool false)/\w'=W:=by
 go_enter Tryz.func174,Tryz.ntmps174;go_wp2_with fail;go_ret;exact⟨rfl,rfl⟩
theorem nanI_any(x:Int) (W:World):Calls Tryz.prog 173 #[.int .i64 x] W fun e w'=>e=.returned (.bool false)/\w'=W:=by
 go_enter Tryz.func173,Tryz.ntmps173;go_wp2_with fail;go_ret;exact⟨rfl,rfl⟩
def cmpZ (x y:Int):Int:=if x < y then -1 else if y < x then 1 else 0
theorem cmpU_any(x y:Nat) (W:World):Calls Tryz.prog 165 #[.int .u32 x,.int .u32 y] W fun e w'=>e=.returned (.int .i64 (cmpZ x y))/\w'=W:=by
 have HX:=zh (nanU_any x W);have HY:=zh (nanU_any y W);by_cases h1:(x:Int) < y
 ·have HR:Hid (cmpZ x y = -1):=zh (if_pos h1);go_enter Tryz.func165,Tryz.ntmps165;go_wp2_with (go_at_call 174;first | (refine HX.out.mono ?_;rintro e w' ⟨rfl,rfl⟩) | (refine HY.out.mono ?_;rintro e w' ⟨rfl,rfl⟩))
  go_ret;rw[HR.out];exact⟨rfl,rfl⟩
 by_cases h2:(y:Int) < x
 ·have HR:Hid (cmpZ x y=1):=zh (by unfold cmpZ;rw[if_neg h1,if_pos h2])
  go_enter Tryz.func165,Tryz.ntmps165;go_wp2_with (go_at_call 174;first | (refine HX.out.mono ?_;rintro e w' ⟨rfl,rfl⟩) | (refine HY.out.mono ?_;rintro e w' ⟨rfl,rfl⟩))
  go_ret;rw[HR.out];exact⟨rfl,rfl⟩
 ·have HR:Hid (cmpZ x y=0):=zh (by unfold cmpZ;rw[if_neg h1,if_neg h2])
  go_enter Tryz.func165,Tryz.ntmps165;go_wp2_with (go_at_call 174;first | (refine HX.out.mono ?_;rintro e w' ⟨rfl,rfl⟩) | (refine HY.out.mono ?_;rintro e w' ⟨rfl,rfl⟩))
  go_ret;rw[HR.out];exact⟨rfl,rfl⟩
theorem cmpI_any(x y:Int) (W:World):Calls Tryz.prog 164 #[.int .i64 x,.int .i64 y] W fun e w'=>e=.returned (.int .i64 (cmpZ x y))/\w'=W:=by
 have HX:=zh (nanI_any x W);have HY:=zh (nanI_any y W);by_cases h1:x < y
 ·have HR:Hid (cmpZ x y = -1):=zh (if_pos h1);go_enter Tryz.func164,Tryz.ntmps164;go_wp2_with (go_at_call 173;first | (refine HX.out.mono ?_;rintro e w' ⟨rfl,rfl⟩) | (refine HY.out.mono ?_;rintro e w' ⟨rfl,rfl⟩))
  go_ret;rw[HR.out];exact⟨rfl,rfl⟩
 by_cases h2:y < x
 ·have HR:Hid (cmpZ x y=1):=zh (by unfold cmpZ;rw[if_neg h1,if_pos h2])
  go_enter Tryz.func164,Tryz.ntmps164;go_wp2_with (go_at_call 173;first | (refine HX.out.mono ?_;rintro e w' ⟨rfl,rfl⟩) | (refine HY.out.mono ?_;rintro e w' ⟨rfl,rfl⟩))
  go_ret;rw[HR.out];exact⟨rfl,rfl⟩
 ·have HR:Hid (cmpZ x y=0):=zh (by unfold cmpZ;rw[if_neg h1,if_neg h2])
  go_enter Tryz.func164,Tryz.ntmps164;go_wp2_with (go_at_call 173;first | (refine HX.out.mono ?_;rintro e w' ⟨rfl,rfl⟩) | (refine HY.out.mono ?_;rintro e w' ⟨rfl,rfl⟩))
  go_ret;rw[HR.out];exact⟨rfl,rfl⟩
theorem cmpZ_lt{x y:Int} (h:x < y):cmpZ x y = -1:=if_pos h
theorem cmpZ_gt{x y:Int} (h:y < x):cmpZ x y=1:=by unfold cmpZ;rw[if_neg (by omega),if_pos h]
theorem cmpZ_eq{x y:Int} (h:x=y):cmpZ x y=0:=by unfold cmpZ;rw[if_neg (by omega),if_neg (by omega)]
theorem compare_any(x y:List Nat) (p q:Option Addr) (c e0:Nat) (W:World) (N M:Nat->Prop) (hx:LA W N x p c) (hy:LA W M y q e0) (tx:trimL x=x) (ty:trimL y=y) :
  Calls Tryz.prog 143 #[.slice p x.length c,.slice q y.length e0] W fun e w'=>e=.returned (.int .i64 (cmpZ (vL bU x) (vL bU y)))/\Turned (fun _=>False) W w':=by
 have HC:=zh (fun W=>cmpI_any x.length y.length W)
 have cx:=hx.cap;have mx:=hx.mx;unfold maxLen at mx;by_cases h1:x.length < y.length
 ·rw[cmpZ_lt (by omega)] at HC
  have HR:Hid (cmpZ (vL bU x) (vL bU y) = -1):=zh (cmpZ_lt (by have:=trim_len_lt (b:=bU) (by decide) hx.dig hy.dig tx ty h1;omega))
  clear hx hy tx ty h1;go_enter Tryz.func143,Tryz.ntmps143;go_wp2_with (go_at_call 164;refine(HC.out _).mono ?_;rintro e w' ⟨rfl,hw⟩;rw[hw];clear hw);go_ret;rw[HR.out];exact⟨rfl,Turned.refl _ _⟩
 by_cases h2:y.length < x.length
 ·rw[cmpZ_gt (by omega)] at HC
  have HR:Hid (cmpZ (vL bU x) (vL bU y)=1):=zh (cmpZ_gt (by have:=trim_len_lt (b:=bU) (by decide) hy.dig hx.dig ty tx h2;omega))
  clear hx hy tx ty h1 h2;go_enter Tryz.func143,Tryz.ntmps143;go_wp2_with (go_at_call 164;refine(HC.out _).mono ?_;rintro e w' ⟨rfl,hw⟩;rw[hw];clear hw);go_ret;rw[HR.out];exact⟨rfl,Turned.refl _ _⟩
 have hlen:y.length=x.length:=by omega
 rw[cmpZ_eq (by omega)] at HC
 have HX:=zh hx;have HY:=zh hy;have HLE:=zh hlen;have hw0:IntKind.i64.wrap ((x.length:Int)-1)=(x.length:Int)-1:=IntWalk.i64_in _ (by omega)
 clear hx hy tx ty h1 h2 hlen;go_enter Tryz.func143,Tryz.ntmps143;go_wp2_with (go_at_call 164;refine(HC.out _).mono ?_;rintro e w' ⟨rfl,hw⟩;rw[hw];clear hw);clear HC hw0
 go_loopw [6] (fun i wr=>∃j:Nat,i=(.int .i64 ((j:Int)-1))/\j<=x.length/\Hid (x.drop j=y.drop j/\Turned (fun _=>False) W wr)) (fun i _=>(intOf i+1).toNat)
 case atStart=>exact⟨x.length,rfl,Nat.le_refl _,zh ⟨by rw[List.drop_length,<- HLE.out,List.drop_length],Turned.refl _ _⟩⟩
 case round =>
  obtain⟨j,rfl,hj,HR⟩:=hrel;cases j with
  | zero =>
   have hneg:¬(0:Int)<=((0:Nat):Int)-1:=by omega
   have HE:Hid (cmpZ (vL bU x) (vL bU y)=0):=zh (by
    have h:=HR.out.1;rw[List.drop_zero,List.drop_zero] at h;rw[h];exact cmpZ_eq rfl)
   go_wp2_with fail;go_ret;rw[HE.out];exact⟨rfl,HR.out.2⟩
  | succ k =>
   have hk0:k < x.length:=by omega
   obtain⟨b,a,d,rfl,-,hd,-,hdb,d1⟩:=(HX.out.turned HR.out.2).get (i:=k) (by omega)
   obtain⟨b2,a2,d2,rfl,-,hd2,-,hdb2,d3⟩:=(HY.out.turned HR.out.2).get (i:=k) (by have:=HLE.out;omega)
   have hpos:(0:Int)<=((k+1:Nat):Int)-1:=by omega
   obtain⟨f1,f2,f3⟩:=cmp_digits (b:=bU) HX.out.dig HY.out.dig hd hd2 HR.out.1;have HD:=zh (fun W=>cmpU_any d d2 W)
   have hle:y.length=x.length:=HLE.out;have hi1:((k+1:Nat):Int)-1=(k:Int):=by omega
   rw[hi1] at hpos ⊢;clear hi1;have hw1:IntKind.i64.wrap ((k:Int)-1)=(k:Int)-1:=IntWalk.i64_in _ (by omega)
   have hkl:(k:Int) < (x.length:Int):=by omega
   have hkl2:(k:Int) < (y.length:Int):=by omega
   by_cases g1:d < d2
   ·rw[cmpZ_lt (by omega)] at HD
    have HE:Hid (cmpZ (vL bU x) (vL bU y) = -1):=zh (cmpZ_lt (by have:=f1 g1;omega))
    clear f1 f2 f3 g1 HLE;go_wp2_with fail
    go_quiet ((go_at_call 165;(first | exact quiet_add_same (HD.out _) | exact Calls.quiet_of_same (HD.out _))))
    go_wp2_with fail;go_ret;rw[HE.out];exact⟨rfl,HR.out.2.trans (drewN_turned _ _ _)⟩
   by_cases g2:d2 < d
   ·rw[cmpZ_gt (by omega)] at HD
    have HE:Hid (cmpZ (vL bU x) (vL bU y)=1):=zh (cmpZ_gt (by have:=f2 g2;omega))
    clear f1 f2 f3 g1 g2 HLE;go_wp2_with fail
    go_quiet ((go_at_call 165;(first | exact quiet_add_same (HD.out _) | exact Calls.quiet_of_same (HD.out _))))
    go_wp2_with fail;go_ret;rw[HE.out];exact⟨rfl,HR.out.2.trans (drewN_turned _ _ _)⟩
   ·rw[cmpZ_eq (by omega)] at HD
    have HS:Hid (x.drop k=y.drop k):=zh (f3 (by omega))
    clear f1 f2 f3 g1 g2 HLE;go_wp2_with fail
    go_quiet ((go_at_call 165;(first | exact quiet_add_same (HD.out _) | exact Calls.quiet_of_same (HD.out _))))
    go_wp2_with fail;refine⟨⟨k,rfl,by omega,zh ⟨HS.out,HR.out.2.trans (drewN_turned _ _ _)⟩⟩,?_⟩
    show(intOf (.int .i64 ((k:Int)-1))+1).toNat < (intOf (.int .i64 ((k:Int)))+1).toNat;simp only[intOf];omega
end Go.Proofs.YtanhhdndgkhcfaaGreatDoor
