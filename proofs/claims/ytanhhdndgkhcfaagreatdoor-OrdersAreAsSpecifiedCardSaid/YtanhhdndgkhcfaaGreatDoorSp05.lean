/- Part 5 of the proof of lawSpec.card: RatPlain, NatWalkO, NatWalkP, RatWalkA, RatWalkB. Conditions: those of each theorem. -/
import Derived.Deep.RegionHeld3
import Derived.Laws.EntriesVeiled
import Derived.Laws.StructEq
import Derived.Test.YtanhhdndgkhcfaaGreatDoorSp01
import Derived.Test.YtanhhdndgkhcfaaGreatDoorSp02
import Derived.Test.YtanhhdndgkhcfaaGreatDoorSp04
set_option maxRecDepth 20000
set_option maxHeartbeats 2000000
namespace Go.Proofs.YtanhhdndgkhcfaaGreatDoor
def natB (s:ByteArray):Nat:=valB s.data.toList
def encB (n:Nat):ByteArray:=⟨(encN n).toArray⟩
theorem natB_encB(n:Nat):natB (encB n)=n:=valB_encN n
theorem encB_inj{a b:Nat} (h:encB a=encB b):a=b:=by rw[<- natB_encB a,h,natB_encB]
theorem encB_zero:encB 0=⟨#[]⟩:=by unfold encB;rw[encN_zero]
theorem encB_nil{n:Nat} : encB n=⟨#[]⟩↔n=0:=by
 constructor
 ·intro h;rw[<- natB_encB n,h];rfl
 ·rintro rfl;exact encB_zero
structure Rv where
 neg:Bool
 num:ByteArray
 den:ByteArray
def zeroR:Rv:=⟨false,⟨#[]⟩,⟨#[]⟩⟩
def goodR (u:Rv):Prop:=u.num≠⟨#[]⟩/\u.den≠⟨#[]⟩/\encB (natB u.num)=u.num/\encB (natB u.den)=u.den/\Nat.gcd (natB u.num) (natB u.den)=1
def validR (u:Rv):Prop:=u=zeroR\/goodR u
instance:DecidableEq ByteArray:=inferInstance
instance (u:Rv):Decidable (goodR u):=by unfold goodR;infer_instance
def sgn (neg:Bool) (n:Nat):Int:=if neg then -(n:Int) else n
def fracR (u:Rv):Bool×Nat×Nat:=if goodR u then(u.neg,natB u.num,natB u.den) else(false,0,1)
theorem goodR_pos{u:Rv} (h:goodR u):natB u.num≠0/\natB u.den≠0:=by
 obtain⟨h1,h2,h3,h4,-⟩:=h;constructor
 ·intro h5;rw[h5,encB_zero] at h3;exact h1 h3.symm
 ·intro h5;rw[h5,encB_zero] at h4;exact h2 h4.symm
theorem fracR_den(u:Rv):(fracR u).2.2≠0:=by
 unfold fracR;split
 ·rename_i h;exact(goodR_pos h).2
 ·show 1≠0;decide
def qR (u:Rv):Rat:=mkRat (sgn (fracR u).1 (fracR u).2.1) (fracR u).2.2
def lowR (neg:Bool) (n d:Nat):Rv:=if n=0 then zeroR else⟨neg,encB (n / Nat.gcd n d),encB (d / Nat.gcd n d)⟩
def repR (q:Rat):Rv:=lowR (decide (q.num < 0)) q.num.natAbs q.den
theorem sgn_natAbs(neg:Bool) (n:Nat):(sgn neg n).natAbs=n:=by unfold sgn;split <;> simp
theorem repR_zero:repR 0=zeroR:=rfl
theorem sgn_zero(neg:Bool):sgn neg 0=0:=by unfold sgn;split <;> rfl
theorem low_rep(neg:Bool) (n d:Nat) (hd:d≠0):lowR neg n d=repR (mkRat (sgn neg n) d):=by
 by_cases h0:n=0
 ·subst h0;rw[sgn_zero,Rat.zero_mkRat,repR_zero];exact if_pos rfl
 have hg:0 < Nat.gcd n d:=Nat.gcd_pos_of_pos_left _ (by omega)
 rw[<- Rat.normalize_eq_mkRat hd,Rat.normalize_eq hd];unfold repR;simp only[sgn_natAbs];have e1:(sgn neg n / ((Nat.gcd n d:Nat):Int)).natAbs=n / Nat.gcd n d:=by
  obtain⟨m,hm⟩:=Nat.gcd_dvd_left n d;have:sgn neg n=((Nat.gcd n d:Nat):Int)*sgn neg m:=by
   unfold sgn;split
   ·rw[Int.mul_neg,<- Int.natCast_mul,<- hm]
   ·rw[<- Int.natCast_mul,<- hm]
  rw[this,Int.mul_ediv_cancel_left _ (by omega),sgn_natAbs]
  conv=>rhs;lhs;rw[hm]
  rw[Nat.mul_div_cancel_left _ hg]
 have e2:decide (sgn neg n / ((Nat.gcd n d:Nat):Int) < 0)=neg:=by
  obtain⟨m,hm⟩:=Nat.gcd_dvd_left n d;have hm0:m≠0:=by rintro rfl;rw[Nat.mul_zero] at hm;exact h0 hm
  have:sgn neg n=((Nat.gcd n d:Nat):Int)*sgn neg m:=by
   unfold sgn;split
   ·rw[Int.mul_neg,<- Int.natCast_mul,<- hm]
   ·rw[<- Int.natCast_mul,<- hm]
  rw[this,Int.mul_ediv_cancel_left _ (by omega)]
  unfold sgn;cases neg
  ·simp
  ·simp;omega
 rw[e1,e2];have h1:n / Nat.gcd n d≠0:=by
  have:=Nat.div_pos (Nat.le_of_dvd (by omega) (Nat.gcd_dvd_left n d)) hg
  omega
 unfold lowR;rw[if_neg h0,if_neg h1,show Nat.gcd (n / Nat.gcd n d) (d / Nat.gcd n d)=1 from Nat.coprime_div_gcd_div_gcd hg,Nat.div_one,Nat.div_one]
theorem repR_good{q:Rat} (h:q≠0):goodR (repR q)/\fracR (repR q)=(decide (q.num < 0),q.num.natAbs,q.den):=by
 have h0:q.num.natAbs≠0:=fun h1=>h (Rat.num_eq_zero.1 (by omega))
 have hc:Nat.gcd q.num.natAbs q.den=1:=q.reduced;have e:repR q=⟨decide (q.num < 0),encB q.num.natAbs,encB q.den⟩:=by
  unfold repR lowR;rw[if_neg h0,hc,Nat.div_one,Nat.div_one]
 have hg:goodR (repR q):=by
  rw[e];refine⟨fun h1=>h0 (encB_nil.1 h1),fun h1=>q.den_nz (encB_nil.1 h1),?_,?_,?_⟩
  ·show encB (natB (encB _))=_;rw[natB_encB]
  ·show encB (natB (encB _))=_;rw[natB_encB]
  ·show Nat.gcd (natB (encB _)) (natB (encB _))=1;rw[natB_encB,natB_encB];exact hc
 refine⟨hg,?_⟩;unfold fracR;rw[if_pos hg,e];show(_,natB (encB _),natB (encB _))=_;rw[natB_encB,natB_encB]
theorem not_good_zero:¬goodR zeroR:=fun h=>h.1 rfl
theorem qR_repR(q:Rat):qR (repR q)=q:=by
 by_cases h:q=0
 ·subst h;rw[repR_zero];unfold qR fracR;rw[if_neg not_good_zero,sgn_zero,Rat.zero_mkRat]
 ·unfold qR;rw[(repR_good h).2];have e:sgn (decide (q.num < 0)) q.num.natAbs=q.num:=by
   unfold sgn;by_cases h1:q.num < 0
   ·simp only[h1,decide_true,↓reduceIte];omega
   ·simp only[h1,decide_false,Bool.false_eq_true,↓reduceIte];omega
  show mkRat (sgn _ _) _=q;rw[e,Rat.mkRat_self]
theorem repR_inj{a b:Rat} (h:repR a=repR b):a=b:=by rw[<- qR_repR a,h,qR_repR]
theorem repR_qR{u:Rv} (h:validR u):repR (qR u)=u:=by
 rcases h with rfl | h
 ·unfold qR fracR;rw[if_neg not_good_zero,sgn_zero,Rat.zero_mkRat,repR_zero]
 ·obtain⟨h1,h2⟩:=goodR_pos h;unfold qR fracR;rw[if_pos h,<- low_rep _ _ _ h2];obtain⟨-,-,h5,h6,h7⟩:=h;unfold lowR;rw[if_neg h1,h7,Nat.div_one,Nat.div_one,h5,h6]
theorem qR_invalid{u:Rv} (h:¬goodR u):qR u=0:=by
 unfold qR fracR;rw[if_neg h,sgn_zero,Rat.zero_mkRat]
def plusF (f g:Bool×Nat×Nat):Bool×Nat×Nat :=
 if f.1=g.1 then(f.1,f.2.1*g.2.2+g.2.1*f.2.2,f.2.2*g.2.2)
 else if f.2.1*g.2.2 < g.2.1*f.2.2 then(g.1,g.2.1*f.2.2-f.2.1*g.2.2,f.2.2*g.2.2)
 else(f.1,f.2.1*g.2.2-g.2.1*f.2.2,f.2.2*g.2.2)
def qF (f:Bool×Nat×Nat):Rat:=mkRat (sgn f.1 f.2.1) f.2.2
theorem qF_plus(f g:Bool×Nat×Nat) (hf:f.2.2≠0) (hg:g.2.2≠0):qF (plusF f g)=qF f+qF g/\(plusF f g).2.2≠0:=by
 obtain⟨a,n,d⟩:=f;obtain⟨b,m,e⟩:=g;simp only at hf hg;have hde:d*e≠0:=Nat.mul_ne_zero hf hg;have key:qF (a,n,d)+qF (b,m,e)=mkRat (sgn a n*e+sgn b m*d) (d*e):=Rat.mkRat_add_mkRat _ _ hf hg;rw[key];unfold plusF qF;dsimp only;split
 ·rename_i h
  subst h;refine⟨?_,hde⟩
  congr 1
  unfold sgn;cases a <;> simp[Int.natCast_add,Int.natCast_mul] <;> grind
 ·rename_i h
  split
  ·rename_i h2
   refine⟨?_,hde⟩
   congr 1
   unfold sgn;have h3:((m*d-n*e:Nat):Int)=(m:Int)*d-n*e:=by rw[Int.natCast_sub (by omega)];simp
   cases a <;> cases b <;> simp_all <;> grind
  ·rename_i h2
   refine⟨?_,hde⟩
   congr 1
   unfold sgn;have h3:((n*e-m*d:Nat):Int)=(n:Int)*e-m*d:=by rw[Int.natCast_sub (by omega)];simp
   cases a <;> cases b <;> simp_all <;> grind
theorem qF_times(f g:Bool×Nat×Nat):qF (f.1 != g.1,f.2.1*g.2.1,f.2.2*g.2.2)=qF f*qF g:=by
 obtain⟨a,n,d⟩:=f;obtain⟨b,m,e⟩:=g;unfold qF;dsimp only;rw[Rat.mkRat_mul_mkRat]
 congr 1
 unfold sgn;cases a <;> cases b <;> simp <;> grind
theorem qF_neg(f:Bool×Nat×Nat):qF (!f.1,f.2) = - qF f:=by
 obtain⟨a,n,d⟩:=f;unfold qF;dsimp only;rw[Rat.neg_mkRat]
 congr 1
 unfold sgn;cases a <;> simp
theorem qF_inv(f:Bool×Nat×Nat) (h1:f.2.1≠0) (h2:f.2.2≠0):qF (f.1,f.2.2,f.2.1)=(qF f)⁻¹:=by
 obtain⟨a,n,d⟩:=f;simp only at h1 h2;have h:qF (a,d,n)*qF (a,n,d)=1:=by
  rw[<- qF_times];unfold qF;dsimp only;have e:sgn (a != a) (d*n)=((d*n:Nat):Int):=by unfold sgn;simp
  rw[e,Nat.mul_comm n d,Rat.mkRat_eq_div];have h3:((d*n:Nat):Rat)≠0:=by
   intro h4;have h5:((d*n:Nat):Int)=0:=by exact_mod_cast h4
   have h6:d*n=0:=by omega
   rcases Nat.mul_eq_zero.1 h6 with h7 | h7
   ·exact h2 h7
   ·exact h1 h7
  rw[Rat.div_def];exact Rat.mul_inv_cancel _ h3
 have h0:qF (a,n,d)≠0:=by
  intro h3;rw[h3,Rat.mul_zero] at h;exact absurd h (by decide)
 rw[<- Rat.mul_one (qF (a,d,n)),<- Rat.mul_inv_cancel _ h0,<- Rat.mul_assoc,h,Rat.one_mul]
theorem qR_qF(u:Rv):qR u=qF (fracR u):=rfl
theorem low_qF(f:Bool×Nat×Nat) (h:f.2.2≠0):lowR f.1 f.2.1 f.2.2=repR (qF f):=low_rep _ _ _ h
theorem qF_sign(f:Bool×Nat×Nat) (h:f.2.2≠0):(f.2.1=0↔qF f=0)/\(f.2.1≠0->(f.1=true↔qF f < 0)):=by
 obtain⟨a,n,d⟩:=f;simp only at h;have hz:n=0↔qF (a,n,d)=0:=by
  unfold qF;dsimp only;constructor
  ·rintro rfl;rw[sgn_zero,Rat.zero_mkRat]
  ·intro h1;have h2:=congrArg Rat.num h1;rw[Rat.num_mkRat,if_neg h,sgn_natAbs] at h2;have h3:lowR a n d=zeroR:=by rw[low_rep a n d h,h1];rfl
   unfold lowR at h3;split at h3
   ·assumption
   ·rename_i h4
    have h5:=congrArg Rv.num h3;have h6:=encB_nil.1 h5;have hg:0 < Nat.gcd n d:=Nat.gcd_pos_of_pos_left _ (by omega)
    have:=Nat.div_pos (Nat.le_of_dvd (by omega) (Nat.gcd_dvd_left n d)) hg
    omega
 refine⟨hz,fun hn=>?_⟩
 have hn0:n≠0:=hn;unfold qF;dsimp only;have hd:(0:Rat) < (d:Rat):=by exact_mod_cast Nat.pos_of_ne_zero h
 have hnn:(0:Rat) < (n:Rat):=by exact_mod_cast Nat.pos_of_ne_zero hn0
 rw[Rat.mkRat_eq_div,Rat.div_def];have hi:=Rat.inv_pos.2 hd;unfold sgn;cases a
 ·have h1:(0:Rat) < ((n:Int):Rat)*((d:Nat):Rat)⁻¹:=Rat.mul_pos (by exact_mod_cast hnn) hi
  simp
  grind
 ·have h1:(0:Rat) < ((n:Int):Rat)*((d:Nat):Rat)⁻¹:=Rat.mul_pos (by exact_mod_cast hnn) hi
  simp
  grind
open Go Go.Proofs Go.RowKit
attribute [local go_sem] Oper.semAt_some
theorem natB_len(s:ByteArray):(digs bU (natB s)).length<=s.size:=by
 refine digs_len_le (by decide) ?_
 have h1:=valB_lt s.data.toList;have h2:s.data.toList.length=s.size:=by simp
 rw[h2] at h1;exact Nat.lt_of_lt_of_le h1 (Nat.pow_le_pow_left (by decide) _)
def DgR (W w':World) (e:Ending) (n:Nat):Prop:=∃p c,e=.returned (.slice p (digs bU n).length c)/\LA w' (fun _=>True) (digs bU n) p c/\Turned (fun _=>False) W w'
theorem RetL.dg{W w':World} {e:Ending} {n:Nat} (h:RetL W w' e n):DgR W w' e n:=by
 obtain⟨p,c,h1,h2,h3⟩:=h;exact⟨p,c,h1,h2.any,h3⟩
theorem load_dg(s:ByteArray) (W:World) (hs:s.size<=1000000000):Calls Tryz.prog 123 #[.string s] W fun e w'=>DgR W w' e (natB s):=(load_any s W hs).mono fun _ _ h=>h.dg
theorem text_dg(n:Nat) (p:Option Addr) (c:Nat) (W:World) (h:LA W (fun _=>True) (digs bU n) p c) (hl:(digs bU n).length<=900000000):Calls Tryz.prog 124 #[.slice p (digs bU n).length c] W fun e w'=>e=.returned (.string (encB n))/\Turned (fun _=>False) W w':=by
 have h1:=text_any (digs bU n) p c W _ h hl;rw[vL_digs (by decide)] at h1
 exact h1
theorem by_dg(a b:Nat) (p q:Option Addr) (c e0:Nat) (W:World) (hx:LA W (fun _=>True) (digs bU a) p c) (hy:LA W (fun _=>True) (digs bU b) q e0) (hb:b≠0) (hl:(digs bU a).length<=900000000) :
  Calls Tryz.prog 122 #[.slice p (digs bU a).length c,.slice q (digs bU b).length e0] W fun e w'=>ByR W w' e (a / b) (a % b):=by
 have ta:=digs_trim (b:=bU) (by decide) a
 have tb:=digs_trim (b:=bU) (by decide) b
 have va:=vL_digs (b:=bU) (by decide) a
 have vb:=vL_digs (b:=bU) (by decide) b
 rcases Nat.lt_or_ge a b with h | h
 ·have h1:=by_less (digs bU a) (digs bU b) p q c e0 W _ _ hx hy ta tb (by rw[va,vb];exact h)
  rwa [va,vb] at h1
 ·rcases Nat.lt_or_ge (digs bU b).length 2 with h2 | h2
  ·have h3:(digs bU b).length=1:=by
    have:(digs bU b).length≠0:=fun h0=>hb ((digs_nil (by decide)).1 (List.length_eq_zero_iff.1 h0))
    omega
   obtain⟨d,hd⟩:=List.length_eq_one_iff.1 h3;have hdb:d=b:=by rw[<- vb,hd];simp[vL]
   subst hdb;rw[hd] at hy;have h4:=by_digit (digs bU a) d p q c e0 W _ _ hx hy ta (by omega) (by rw[va];exact h) (by omega)
   rw[va] at h4;rw[h3];exact h4
  ·have h3:=by_long (digs bU a) (digs bU b) p q c e0 W _ _ hx hy ta tb h2 (by rw[va,vb];exact h) hl
   rwa [va,vb] at h3
theorem nCmp_any(a b:ByteArray) (W:World) (ha:a.size<=900000000) (hb:b.size<=900000000):Calls Tryz.prog 131 #[.string a,.string b] W fun e w'=>e=.returned (.int .i64 (cmpZ (natB a) (natB b)))/\Turned (fun _=>False) W w':=by
 have HA:=zh (load_dg a W (by omega))
 have HB:=zh (fun W=>load_dg b W (by omega))
 clear ha hb;go_enter Tryz.func131,Tryz.ntmps131;go_wp2_with fail;refine HA.out.mono ?_;rintro e w1 ⟨p1,c1,rfl,h1,t1⟩;have H1:=zh (And.intro h1 t1);clear h1 t1;go_wp2_with fail;refine(HB.out w1).mono ?_;rintro e w2 ⟨p2,c2,rfl,h2,t2⟩;have H2:=zh (And.intro (H1.out.1.turned t2) (And.intro h2 (H1.out.2.trans t2)));clear h2 t2;go_wp2_with fail;refine(compare_any _ _ p1 p2 c1 c2 w2 _ _ H2.out.1 H2.out.2.1 (digs_trim (by decide) _) (digs_trim (by decide) _)).mono ?_
 rintro e w3 ⟨rfl,t3⟩;have H3:=zh (H2.out.2.2.trans t3);rw[vL_digs (by decide),vL_digs (by decide)]
 clear t3;go_wp2_with fail;go_ret;exact⟨rfl,H3.out⟩
theorem lt_of_len_le{n k:Nat} (h:(digs bU n).length<=k):n < bU ^ k:=Nat.lt_of_lt_of_le (digs_lt_pow (by decide) n) (Nat.pow_le_pow_right (by decide) h)
theorem len_add{m n k j:Nat} (hm:(digs bU m).length<=k) (hn:(digs bU n).length<=j) (hj:j<=k):(digs bU (m+n)).length<=k+1:=by
 refine digs_len_le (by decide) ?_
 have h1:=lt_of_len_le hm;have h2:=lt_of_len_le (Nat.le_trans hn hj);rw[Nat.pow_succ];have h3:bU ^ k*2<=bU ^ k*bU:=Nat.mul_le_mul_left _ (by decide)
 omega
theorem len_mul{m n k j:Nat} (hm:(digs bU m).length<=k) (hn:(digs bU n).length<=j):(digs bU (m*n)).length<=k+j:=by
 refine digs_len_le (by decide) ?_
 rw[Nat.pow_add];exact Nat.mul_lt_mul'' (lt_of_len_le hm) (lt_of_len_le hn)
theorem nAdd_any(a b:ByteArray) (W:World) (ha:a.size<=400000000) (hb:b.size<=400000000):Calls Tryz.prog 130 #[.string a,.string b] W fun e w'=>e=.returned (.string (encB (natB a+natB b)))/\Turned (fun _=>False) W w':=by
 have HA:=zh (load_dg a W (by omega))
 have HB:=zh (fun W=>load_dg b W (by omega))
 have HLa:=zh (Nat.le_trans (natB_len a) ha);have HLb:=zh (Nat.le_trans (natB_len b) hb);have HLc:Hid ((digs bU (natB a+natB b)).length<=900000000):=zh (Nat.le_trans (len_add HLa.out HLb.out (Nat.le_refl _)) (by omega))
 clear ha hb;go_enter Tryz.func130,Tryz.ntmps130;go_wp2_with fail;refine HA.out.mono ?_;rintro e w1 ⟨p1,c1,rfl,h1,t1⟩;have H1:=zh (And.intro h1 t1);clear h1 t1;go_wp2_with fail;refine(HB.out w1).mono ?_;rintro e w2 ⟨p2,c2,rfl,h2,t2⟩;have H2:=zh (And.intro (H1.out.1.turned t2) (And.intro h2 (H1.out.2.trans t2)));clear h2 t2;go_wp2_with fail;refine(plus_any (digs bU (natB a)) (digs bU (natB b)) p1 p2 c1 c2 w2 _ _ H2.out.1 H2.out.2.1 (by have:=HLa.out;omega) (by have:=HLb.out;omega)).mono ?_
 rintro e w3 h3;have h4:=h3.dg;rw[vL_digs (by decide),vL_digs (by decide)] at h4
 obtain⟨p3,c3,rfl,h5,t5⟩:=h4;have H3:=zh (And.intro h5 (H2.out.2.2.trans t5));clear h3 h5 t5;go_wp2_with fail;refine(text_dg (natB a+natB b) p3 c3 w3 H3.out.1 HLc.out).mono ?_;rintro e w4 ⟨rfl,t6⟩;have H4:=zh (H3.out.2.trans t6);clear t6;go_wp2_with fail;go_ret;exact⟨rfl,H4.out⟩
theorem nMul_any(a b:ByteArray) (W:World) (ha:a.size<=400000000) (hb:b.size<=400000000):Calls Tryz.prog 129 #[.string a,.string b] W fun e w'=>e=.returned (.string (encB (natB a*natB b)))/\Turned (fun _=>False) W w':=by
 have HA:=zh (load_dg a W (by omega))
 have HB:=zh (fun W=>load_dg b W (by omega))
 have HLa:=zh (Nat.le_trans (natB_len a) ha);have HLb:=zh (Nat.le_trans (natB_len b) hb);have HLc:Hid ((digs bU (natB a*natB b)).length<=900000000):=zh (Nat.le_trans (len_mul HLa.out HLb.out) (by omega))
 clear ha hb;go_enter Tryz.func129,Tryz.ntmps129;go_wp2_with fail;refine HA.out.mono ?_;rintro e w1 ⟨p1,c1,rfl,h1,t1⟩;have H1:=zh (And.intro h1 t1);clear h1 t1;go_wp2_with fail;refine(HB.out w1).mono ?_;rintro e w2 ⟨p2,c2,rfl,h2,t2⟩;have H2:=zh (And.intro (H1.out.1.turned t2) (And.intro h2 (H1.out.2.trans t2)));clear h2 t2;go_wp2_with fail;refine(times_any (digs bU (natB a)) (digs bU (natB b)) p1 p2 c1 c2 w2 _ _ H2.out.1 H2.out.2.1 (by have:=HLa.out;omega) (by have:=HLb.out;omega)).mono ?_
 rintro e w3 h3;have h4:=h3.dg;rw[vL_digs (by decide),vL_digs (by decide)] at h4
 obtain⟨p3,c3,rfl,h5,t5⟩:=h4;have H3:=zh (And.intro h5 (H2.out.2.2.trans t5));clear h3 h5 t5;go_wp2_with fail;refine(text_dg (natB a*natB b) p3 c3 w3 H3.out.1 HLc.out).mono ?_;rintro e w4 ⟨rfl,t6⟩;have H4:=zh (H3.out.2.trans t6);clear t6;go_wp2_with fail;go_ret;exact⟨rfl,H4.out⟩
theorem nSub_any(a b:ByteArray) (W:World) (ha:a.size<=400000000) (hb:b.size<=400000000) (hle:natB b<=natB a):Calls Tryz.prog 132 #[.string a,.string b] W fun e w'=>e=.returned (.tuple #[.string (encB (natB a-natB b)),.int .i64 0])/\Turned (fun _=>False) W w':=by
 have HA:=zh (load_dg a W (by omega))
 have HB:=zh (fun W=>load_dg b W (by omega))
 have HLa:=zh (Nat.le_trans (natB_len a) ha);have HLb:=zh (Nat.le_trans (natB_len b) hb);have HLE:=zh hle;obtain⟨z,hz⟩ : ∃z,cmpZ (natB a) (natB b)=z:=⟨_,rfl⟩;have hzf:decide (z < 0)=false:=by rw[<- hz];unfold cmpZ;split <;> (try split) <;> simp <;> omega
 have HZ:=zh hz;clear ha hb hz hle;go_enter Tryz.func132,Tryz.ntmps132;go_wp2_with fail;refine HA.out.mono ?_;rintro e w1 ⟨p1,c1,rfl,h1,t1⟩;have H1:=zh (And.intro h1 t1);clear h1 t1;go_wp2_with fail;refine(HB.out w1).mono ?_;rintro e w2 ⟨p2,c2,rfl,h2,t2⟩;have H2:=zh (And.intro (H1.out.1.turned t2) (And.intro h2 (H1.out.2.trans t2)));clear h2 t2;go_wp2_with fail;refine(compare_any _ _ p1 p2 c1 c2 w2 _ _ H2.out.1 H2.out.2.1 (digs_trim (by decide) _) (digs_trim (by decide) _)).mono ?_
 rintro e w3 ⟨rfl,t3⟩;have H3:=zh (And.intro (H2.out.1.turned t3) (And.intro (H2.out.2.1.turned t3) (H2.out.2.2.trans t3)));rw[vL_digs (by decide),vL_digs (by decide),HZ.out]
 clear t3;go_wp2_with fail;refine(minus_any (digs bU (natB a)) (digs bU (natB b)) p1 p2 c1 c2 w3 _ _ H3.out.1 H3.out.2.1 (by have:=HLa.out;omega) (digs_mono (by decide) HLE.out) (by rw[vL_digs (by decide),vL_digs (by decide)];exact HLE.out)).mono ?_
 rintro e w4 h3;have h4:=h3.dg;rw[vL_digs (by decide),vL_digs (by decide)] at h4
 obtain⟨p4,c4,rfl,h5,t5⟩:=h4;have H4:=zh (And.intro h5 (H3.out.2.2.trans t5));clear h3 h5 t5;go_wp2_with fail;refine(text_dg (natB a-natB b) p4 c4 w4 H4.out.1 (Nat.le_trans (digs_mono (by decide) (Nat.sub_le _ _)) (by have:=HLa.out;omega))).mono ?_
 rintro e w5 ⟨rfl,t6⟩;have H5:=zh (H4.out.2.trans t6);clear t6;go_wp2_with fail
 go_ret2
 exact⟨rfl,H5.out⟩
theorem nDivMod_any(a b:ByteArray) (W:World) (ha:a.size<=400000000) (hb:b.size<=400000000) (h0:natB b≠0):Calls Tryz.prog 106 #[.string a,.string b] W fun e w'=>e=.returned (.tuple #[.string (encB (natB a / natB b)),.string (encB (natB a % natB b)),.int .i64 0])/\Turned (fun _=>False) W w':=by
 have HA:=zh (load_dg a W (by omega))
 have HB:=zh (fun W=>load_dg b W (by omega))
 have HLa:=zh (Nat.le_trans (natB_len a) ha);have H0:=zh h0;have hl0:(((digs bU (natB b)).length:Int) == 0)=false:=by
  simp;exact fun h=>h0 ((digs_nil (by decide)).1 h)
 obtain⟨n,hn⟩ : ∃n,(digs bU (natB b)).length=n:=⟨_,rfl⟩;have HN:=zh hn;rw[hn] at hl0;clear ha hb h0 hn;go_enter Tryz.func106,Tryz.ntmps106;go_wp2_with fail;refine HA.out.mono ?_;rintro e w1 ⟨p1,c1,rfl,h1,t1⟩;have H1:=zh (And.intro h1 t1);clear h1 t1;go_wp2_with fail;refine(HB.out w1).mono ?_;rintro e w2 ⟨p2,c2,rfl,h2,t2⟩;have H2:=zh (And.intro (H1.out.1.turned t2) (And.intro h2 (H1.out.2.trans t2)));rw[HN.out];clear h2 t2;have HBy:=zh (by_dg (natB a) (natB b) p1 p2 c1 c2 w2 H2.out.1 H2.out.2.1 H0.out (by have:=HLa.out;omega))
 rw[HN.out] at HBy;go_wp2_with fail;refine HBy.out.mono ?_;rintro e w3 ⟨p3,c3,p4,c4,rfl,h3,h4,t3⟩;have H3:=zh (And.intro h3 (And.intro h4 (H2.out.2.2.trans t3)));clear h3 h4 t3;go_wp2_with fail;refine(text_dg (natB a / natB b) p3 c3 w3 H3.out.1 (Nat.le_trans (digs_mono (by decide) (Nat.div_le_self _ _)) (by have:=HLa.out;omega))).mono ?_
 rintro e w4 ⟨rfl,t4⟩;have H4:=zh (And.intro (H3.out.2.1.turned t4) (H3.out.2.2.trans t4));clear t4;go_wp2_with fail;refine(text_dg (natB a % natB b) p4 c4 w4 H4.out.1 (Nat.le_trans (digs_mono (by decide) (Nat.mod_le _ _)) (by have:=HLa.out;omega))).mono ?_
 rintro e w5 ⟨rfl,t5⟩;have H5:=zh (H4.out.2.trans t5);clear t5;go_wp2_with fail
 go_ret3
 exact⟨rfl,H5.out⟩
theorem gcdE_any(B:Nat):∀(n a b:Nat) (p q:Option Addr) (c e0:Nat) (W:World),b < n->(hx:LA W (fun _=>True) (digs bU a) p c)->(hy:LA W (fun _=>True) (digs bU b) q e0)->(digs bU a).length<=900000000->(digs bU b).length<=900000000->W.cell? ⟨B,0,none⟩=some (.func (.func 121) #[] #[.pointer (some ⟨B,0,none⟩)]) ->
  Calls Tryz.prog 121 #[.slice p (digs bU a).length c,.slice q (digs bU b).length e0,.pointer (some ⟨B,0,none⟩)] W fun e w'=>DgR W w' e (Nat.gcd a b):=by
 intro n
 induction n with
 | zero=>intro a b p q c e0 W h;omega
 | succ n ih =>
  intro a b p q c e0 W hbn hx hy la lb hcell;by_cases h0:b=0
  ·subst h0;have HX:=zh hx;have HE:Hid (Nat.gcd a 0=a):=zh (Nat.gcd_zero_right a);rw[digs_zero,List.length_nil];clear hx hy ih hbn hcell la lb;go_enter Tryz.func121,Tryz.ntmps121;go_wp2_with fail;go_ret;rw[HE.out];exact⟨p,c,rfl,HX.out,Turned.refl _ _⟩
  ·have hl0:(((digs bU b).length:Int) == 0)=false:=by
    simp;exact fun h=>h0 ((digs_nil (by decide)).1 h)
   have HBy:=zh (by_dg a b p q c e0 W hx hy h0 la);obtain⟨m,hm⟩ : ∃m,(digs bU b).length=m:=⟨_,rfl⟩;have HI:=zh (fun(p':Option Addr) (c':Nat) (W':World) h1 h2 (h3:Turned (fun _=>False) W W')=>ih b (a % b) q p' e0 c' W' (by have:=Nat.mod_lt a (Nat.pos_of_ne_zero h0);omega) h1 h2 lb (Nat.le_trans (digs_mono (by decide) (Nat.le_of_lt (Nat.mod_lt a (Nat.pos_of_ne_zero h0)))) lb) (cellT h3 id hcell))
   have HY:=zh (And.intro hy hcell);have HE:Hid (Nat.gcd a b=Nat.gcd b (a % b)):=zh (by rw[Nat.gcd_comm a b,Nat.gcd_rec b a,Nat.gcd_comm])
   rw[hm] at hl0 HBy HI ⊢;clear hx hy ih hbn la lb h0 hm hcell;go_enter Tryz.func121,Tryz.ntmps121;go_wp2_with fail;refine HBy.out.mono ?_;rintro e w1 ⟨p1,c1,p2,c2,rfl,h1,h2,t1⟩;have hcell:=cellT t1 id HY.out.2;have HR:=zh (HI.out p2 c2 w1 (HY.out.1.turned t1) h2 t1);have HT:=zh t1;clear h1 h2 t1;go_wp2_with fail;refine HR.out.mono ?_;rintro e w2 ⟨p3,c3,rfl,h3,t3⟩;have H3:=zh (And.intro h3 (HT.out.trans t3));clear h3 t3;go_wp2_with fail;go_ret;rw[HE.out];exact⟨p3,c3,rfl,H3.out.1,H3.out.2⟩
theorem cell_alloc_one(W:World) (u:Value) (t:TypeId):(W.alloc (.cells #[u] t)).cell? ⟨W.heap.size,0,none⟩=some u:=by
 rw[World.cell?_alloc_at _ _ _ _ rfl];rfl
theorem nGcd_any(a b:ByteArray) (W:World) (ha:a.size<=400000000) (hb:b.size<=400000000):Calls Tryz.prog 93 #[.string a,.string b] W fun e w'=>e=.returned (.string (encB (Nat.gcd (natB a) (natB b))))/\Turned (fun _=>False) W w':=by
 have HA:=zh (fun W=>load_dg a W (by omega))
 have HB:=zh (fun W=>load_dg b W (by omega))
 have HLa:=zh (Nat.le_trans (natB_len a) ha);have HLb:=zh (Nat.le_trans (natB_len b) hb);have HLg:Hid ((digs bU (Nat.gcd (natB a) (natB b))).length<=900000000):=zh (by
  rcases Nat.eq_zero_or_pos (natB a) with h | h
  ·rw[h,Nat.gcd_zero_left];exact Nat.le_trans (natB_len b) (by omega)
  ·exact Nat.le_trans (digs_mono (by decide) (Nat.le_of_dvd h (Nat.gcd_dvd_left _ _))) (Nat.le_trans (natB_len a) (by omega)))
 clear ha hb;go_enter Tryz.func93,Tryz.ntmps93;go_wp2_with fail;obtain⟨B,hB⟩ : ∃B,W.heap.size=B:=⟨_,rfl⟩;have hc0:=cell_alloc_one W (.func (.func 121) #[] #[.pointer (some ⟨W.heap.size,0,none⟩)]) 161;have T0:=(zr W).alloc (.cells #[.func (.func 121) #[] #[.pointer (some ⟨W.heap.size,0,none⟩)]] 161);obtain⟨w0,hw0⟩ : ∃w0,w0=W.alloc (.cells #[.func (.func 121) #[] #[.pointer (some ⟨W.heap.size,0,none⟩)]] 161):=⟨_,rfl⟩;rw[<- hw0] at hc0 T0 ⊢;rw[hB] at hc0 ⊢;have HT0:=zh T0.drew;have HC0:Hid (w0.drew.cell? ⟨B,0,none⟩=some (.func (.func 121) #[] #[.pointer (some ⟨B,0,none⟩)])):=zh (cellT ((zr w0).drew) id hc0);clear hw0 hB T0
 go_region_held3 (fun W=>W.cell? ⟨B,0,none⟩=some (.func (.func 121) #[] #[.pointer (some ⟨B,0,none⟩)]))
  (first | exact HS4.out | exact HS3.out | exact HS2.out | exact HS1.out | exact HC0.out | go_keep)
  (first
   | (have hq:=HS3;clear hq;go_at_call 124;refine(text_dg (Nat.gcd (natB a) (natB b)) p3 c3 w3 H3.out.1 HLg.out).mono ?_;rintro e w4 ⟨rfl,t4⟩;have H4:=zh (H3.out.2.trans t4);have HS4:=zh (cellT t4 id HS3.out);clear t4)
   | (have hq:=HS2;clear hq;go_at_call 121;refine(gcdE_any B (natB b+1) (natB a) (natB b) p1 p2 c1 c2 w2 (Nat.lt_succ_self _) H2.out.1 H2.out.2.1 (Nat.le_trans HLa.out (by omega)) (Nat.le_trans HLb.out (by omega)) HS2.out).mono ?_;rintro e w3 ⟨p3,c3,rfl,h3,t3⟩;have H3:=zh (And.intro h3 (H2.out.2.2.trans t3));have HS3:=zh (cellT t3 id HS2.out);clear h3 t3)
   | (have hq:=HS1;clear hq;go_at_call 123;refine(HB.out w1).mono ?_;rintro e w2 ⟨p2,c2,rfl,h2,t2⟩;have H2:=zh (And.intro (H1.out.1.turned t2) (And.intro h2 (H1.out.2.trans t2)));have HS2:=zh (cellT t2 id HS1.out);clear h2 t2)
   | (go_at_call 123;refine(HA.out w0.drew).mono ?_;rintro e w1 ⟨p1,c1,rfl,h1,t1⟩;have H1:=zh (And.intro h1 (HT0.out.trans t1));have HS1:=zh (cellT t1 id HC0.out);clear h1 t1))
 go_wp2_with fail;go_ret;exact⟨rfl,H4.out⟩
theorem LA.two(W:World) {v u:Nat} (h:v < bU) (k:u < bU):LA (W.alloc (.cells #[.int .u32 v,.int .u32 u] 173)) (fun _=>True) [v,u] (some ⟨W.heap.size,0,none⟩) 2 :=
 ⟨fun d hd=>by
  rcases List.mem_cons.1 hd with rfl | hd
  ·exact h
  ·rw[List.mem_singleton.1 hd];exact k,by simp,by unfold maxLen;omega,fun i d hi=>by
  match i,hi with
  | 0,hi=>cases hi;exact⟨_,0,rfl,trivial,by rw[World.cell?_alloc_at _ _ _ _ rfl];rfl⟩
  | 1,hi=>cases hi;exact⟨_,0,rfl,trivial,by rw[World.cell?_alloc_at _ _ _ _ rfl];rfl⟩
  | i+2,hi=>simp at hi⟩
theorem nInt_any(n:Nat) (W:World) (hn:n < 9223372036854775808):Calls Tryz.prog 105 #[.int .i64 n] W fun e w'=>e=.returned (.tuple #[.string (encB n),.int .i64 0])/\Turned (fun _=>False) W w':=by
 have hz:¬(n:Int) < 0:=by omega
 obtain⟨lo,hlo⟩ : ∃lo,n % bU=lo:=⟨_,rfl⟩;obtain⟨hi,hhi⟩ : ∃hi,n / bU=hi:=⟨_,rfl⟩;have e1:IntKind.u32.wrap (n:Int)=(lo:Int):=by rw[<- hlo];rfl
 have e2:(n:Int) / 4294967296=(hi:Int):=by rw[<- hhi];rfl
 have b1:lo < bU:=by rw[<- hlo];exact Nat.mod_lt _ (by decide)
 have b2:hi < bU:=by rw[<- hhi];unfold bU;omega
 have e3:IntKind.u32.wrap (hi:Int)=(hi:Int):=by show(hi:Int) % 4294967296=hi;unfold bU at b2;omega
 have hd:trimL [lo,hi]=digs bU n:=by
  rw[<- digs_vL (b:=bU) (by decide) (l:=[lo,hi]) (by intro d hd;simp at hd;rcases hd with rfl | rfl;exact b1;exact b2)]
  congr 1
  have:vL bU [lo,hi]=lo+bU*hi:=by simp[vL]
  rw[this,<- hlo,<- hhi];exact Nat.mod_add_div n bU
 have HD:=zh hd;have HB:=zh (And.intro b1 b2);have hl:(digs bU n).length<=900000000:=by
  rw[<- hd];exact Nat.le_trans (trimL_len _) (by simp)
 have HL:=zh hl;clear hlo hhi hd b1 b2 hl hn;go_enter Tryz.func105,Tryz.ntmps105;go_wp2_with fail;refine(trim_any [lo,hi] _ _ _ _ (LA.two W HB.out.1 HB.out.2)).mono ?_;rintro e w1 ⟨rfl,hw⟩;rw[hw,HD.out];clear hw;go_wp2_with fail;refine(text_dg n _ _ _ (by rw[<- HD.out];exact(LA.two W HB.out.1 HB.out.2).trim) HL.out).mono ?_
 rintro e w2 ⟨rfl,t2⟩;have H2:=zh (((zr W).alloc _).trans t2);clear t2;go_wp2_with fail
 go_ret2
 exact⟨rfl,H2.out⟩
theorem canon_nil{s:ByteArray} (h:s=⟨#[]⟩):decide (encB (natB s)=s)=true:=by subst h;simp[natB,valB,encB_zero]
theorem canon_of(s:ByteArray):decide (encB (natB s)=s)=decide (cleanB s.data.toList=s.data.toList):=by
 rw[Bool.eq_iff_iff];simp only[decide_eq_true_eq];unfold encB natB;rw[encN_val];constructor
 ·intro h;have:=congrArg (fun x=>x.data.toList) h
  simpa using this
 ·intro h;rw[h]
theorem nValid_any(s:ByteArray) (W:World):Calls Tryz.prog 92 #[.string s] W fun e w'=>e=.returned (.bool (decide (encB (natB s)=s)))/\w'=W:=by
 by_cases h0:s=⟨#[]⟩
 ·rw[canon_nil h0];subst h0;go_enter Tryz.func92,Tryz.ntmps92;go_wp2_with fail;go_ret;exact⟨rfl,rfl⟩
 ·have hl1:¬s.toList=[]:=by
   rw[ByteArray.toList_eq];intro h;apply h0;have h3:s=⟨(s.data.toList).toArray⟩:=by simp
   rw[h3,h]
  have hl2:s.toList.isEmpty=false:=by simpa using hl1
  have hs:0 < s.size:=by
   rcases Nat.eq_zero_or_pos s.size with h | h
   ·exfalso;apply h0;have h3:s=⟨(s.data.toList).toArray⟩:=by simp
    have h4:s.data.toList=[]:=List.length_eq_zero_iff.1 (by simpa using h)
    rw[h3,h4]
   ·exact h
  have hsi:(0:Int) < (s.size:Int):=by omega
  by_cases hx:((s[0].toNat:Int) == 0)=true
  ·have hv:decide (encB (natB s)=s)=false:=by
    rw[canon_of];obtain⟨x,l,h1,h2,-⟩:=head_of s hs;have hx0:x=0:=by
     rw[h2] at hx;have:(x.toNat:Int)=0:=by simpa using hx
     exact UInt8.toNat_inj.1 (by simpa using this)
    rw[h1,hx0,cleanB_zero];have:=cleanB_len l;simp;intro h;have:=congrArg List.length h;simp at this;omega
   rw[hv];have hx2:((s[0].toNat:Int) != 0)=false:=by rw[bne,hx];rfl
   clear h0 hv;go_enter Tryz.func92,Tryz.ntmps92;go_wp2_with fail;go_ret;exact⟨rfl,rfl⟩
  ·have hv:decide (encB (natB s)=s)=true:=by
    rw[canon_of,head_ne s hs (by simpa using hx)]
    simp
   rw[hv];have hx1:((s[0].toNat:Int) == 0)=false:=by simpa using hx
   have hx2:((s[0].toNat:Int) != 0)=true:=by rw[bne,hx1];rfl
   clear h0 hv hx;go_enter Tryz.func92,Tryz.ntmps92;go_wp2_with fail;go_ret;exact⟨rfl,rfl⟩
abbrev ratV (u:Rv):Value:=.agg #[.bool u.neg,.string u.num,.string u.den]
abbrev frV (f:Bool×Nat×Nat):Value:=.agg #[.bool f.1,.string (encB f.2.1),.string (encB f.2.2)]
instance (u v:Rv):Decidable (u=v):=decidable_of_iff (u.neg=v.neg/\u.num=v.num/\u.den=v.den) (by cases u;cases v;simp)
theorem toList_inj'{a b:ByteArray} : a.toList=b.toList↔a=b:=by
 rw[ByteArray.toList_eq,ByteArray.toList_eq];constructor
 ·intro h;have h1:a=⟨(a.data.toList).toArray⟩:=by simp
  have h2:b=⟨(b.data.toList).toArray⟩:=by simp
  rw[h1,h2,h]
 ·rintro rfl;rfl
theorem run_equal_rat(u v:Rv) (W:World):(Op.equalIn 10000 68 (ratV u) (ratV v)).run Tryz.prog W=.ok (decide (u=v)) W:=by
 have hS:Tryz.prog.underlying 68=some (.struct (Tryz.prog.fieldsOf 68)):=by kernel_rfl
 have hp:Tryz.prog.stoodInHeld 68=false:=by kernel_rfl
 have a1:=Tryz.isAgg9;have z1:=Tryz.sizeOf9;have u1:=Tryz.underlying9;rw[show(10000:Nat)=9999+1 from rfl,run_equalIn_agg W 9999 68 _ _ hS hp];simp only[Program.fieldsOf,Tryz.underlying68];go_simp;simp only[toList_inj'];obtain⟨un,unu,ude⟩:=u;obtain⟨vn,vnu,vde⟩:=v;by_cases h1:un=vn
 ·by_cases h2:unu=vnu
  ·by_cases h3:ude=vde
   ·simp[h1,h2,h3]
   ·simp[h1,h2,h3]
  ·simp[h1,h2]
 ·simp[h1]
theorem run_eql_rat(u v:Rv) (W:World):(binOp .eql 68 (ratV u) (ratV v)).run Tryz.prog W=.ok (.bool (decide (u=v))) W:=by
 rw[run_eql_struct,run_equal_rat];rfl
theorem run_neq_rat(u v:Rv) (W:World):(binOp .neq 68 (ratV u) (ratV v)).run Tryz.prog W=.ok (.bool (!decide (u=v))) W:=by
 rw[run_neq_struct,run_equal_rat];rfl
theorem rat_guard:Tryz.prog.eqGuardType Tryz.prog.depth 68=false:=by kernel_rfl
instance (u:Rv):Decidable (validR u):=by unfold validR;infer_instance
def sameR (u v:Rv):Bool:=decide (u=v)
theorem run_eql_rat'(a b:Bool) (n m d e:ByteArray) (W:World):(binOp .eql 68 (.agg #[.bool a,.string n,.string d]) (.agg #[.bool b,.string m,.string e])).run Tryz.prog W=.ok (.bool (sameR ⟨a,n,d⟩ ⟨b,m,e⟩)) W:=run_eql_rat ⟨a,n,d⟩ ⟨b,m,e⟩ W
theorem run_neq_rat'(a b:Bool) (n m d e:ByteArray) (W:World):(binOp .neq 68 (.agg #[.bool a,.string n,.string d]) (.agg #[.bool b,.string m,.string e])).run Tryz.prog W=.ok (.bool (!sameR ⟨a,n,d⟩ ⟨b,m,e⟩)) W:=run_neq_rat ⟨a,n,d⟩ ⟨b,m,e⟩ W
attribute [local go_sem ↓] run_eql_rat' run_neq_rat'
theorem bytes_ne{s:ByteArray} (h:s≠⟨#[]⟩):¬s.toList=[]/\s.toList.isEmpty=false:=by
 have h1:¬s.toList=[]:=fun h2=>h (toList_inj'.1 (by rw[h2,ByteArray.toList_eq]))
 exact⟨h1,by simpa using h1⟩
theorem qValid_any(u:Rv) (W:World) (hn:u.num.size<=400000000) (hd:u.den.size<=400000000):Calls Tryz.prog 51 #[ratV u] W fun e w'=>e=.returned (.bool (decide (validR u)))/\Turned (fun _=>False) W w':=by
 obtain⟨neg,num,den⟩:=u;have hg:=rat_guard;by_cases hz:(⟨neg,num,den⟩ : Rv)=zeroR
 ·have hv:decide (validR ⟨neg,num,den⟩)=true:=by simp[validR,hz]
  rw[hv];obtain⟨rfl,rfl,rfl⟩ : neg=false/\num=⟨#[]⟩/\den=⟨#[]⟩:=by
   have:=hz;unfold zeroR at this;simpa using this
  have h1:sameR ⟨false,⟨#[]⟩,⟨#[]⟩⟩ ⟨false,⟨#[]⟩,⟨#[]⟩⟩=true:=by simp[sameR]
  clear hz hv;go_enter Tryz.func51,Tryz.ntmps51;go_wp2_with fail;go_ret;exact⟨rfl,(Turned.refl _ W).alloc _⟩
 ·have hz1:sameR ⟨neg,num,den⟩ ⟨false,⟨#[]⟩,⟨#[]⟩⟩=false:=by simpa [zeroR,sameR] using hz
  have hv:decide (validR ⟨neg,num,den⟩)=decide (goodR ⟨neg,num,den⟩):=by simp[validR,hz]
  rw[hv];by_cases h1:num=⟨#[]⟩
  ·have hv2:decide (goodR ⟨neg,num,den⟩)=false:=by simp[goodR,h1]
   rw[hv2];clear hv hv2 hz;subst h1;go_enter Tryz.func51,Tryz.ntmps51;go_wp2_with fail;go_ret;exact⟨rfl,(Turned.refl _ W).alloc _⟩
  obtain⟨l1,l2⟩:=bytes_ne h1;by_cases h2:den=⟨#[]⟩
  ·have hv2:decide (goodR ⟨neg,num,den⟩)=false:=by simp[goodR,h2]
   rw[hv2];clear hv hv2 hz;subst h2;go_enter Tryz.func51,Tryz.ntmps51;go_wp2_with fail;go_ret;exact⟨rfl,(Turned.refl _ W).alloc _⟩
  obtain⟨l3,l4⟩:=bytes_ne h2;have HV1:=zh (fun W=>nValid_any num W)
  by_cases h3:encB (natB num)=num
  ·rw[decide_eq_true h3] at HV1;have HV2:=zh (fun W=>nValid_any den W)
   by_cases h4:encB (natB den)=den
   ·rw[decide_eq_true h4] at HV2;have HG:=zh (fun W=>nGcd_any num den W hn hd)
    obtain⟨g,hg1⟩ : ∃g,Nat.gcd (natB num) (natB den)=g:=⟨_,rfl⟩;rw[hg1] at HG;have hv2:decide (goodR ⟨neg,num,den⟩)=decide (g=1):=by simp[goodR,h1,h2,h3,h4,hg1]
    obtain⟨G,hG⟩ : ∃G,encB g=G:=⟨_,rfl⟩;rw[hG] at HG;have hv3:(G.toList == [1])=decide (g=1):=by
     have e1:(⟨#[1]⟩ : ByteArray)=encB 1:=by unfold encB;rw[encN_pos (by decide),show 1 / 256=0 from rfl,encN_zero];rfl
     have e2:(⟨#[1]⟩ : ByteArray).toList=[1]:=by rw[ByteArray.toList_eq]
     rw[<- e2,Bool.eq_iff_iff,beq_iff_eq,toList_inj',decide_eq_true_eq,<- hG,e1];exact⟨encB_inj,congrArg _⟩
    obtain⟨v,hv4⟩ : ∃v,decide (g=1)=v:=⟨_,rfl⟩;rw[hv2,hv4];rw[hv4] at hv3;clear hv hv2 hz h1 h2 h3 h4 hg1 hG hv4 hn hd;go_enter Tryz.func51,Tryz.ntmps51;go_wp2_with (first | (go_at_call 92;(first | ((with_reducible refine(HV1.out _).mono ?_);rintro e w' ⟨rfl,hw⟩;rw[hw];clear hw) | ((with_reducible refine(HV2.out _).mono ?_);rintro e w' ⟨rfl,hw⟩;rw[hw];clear hw))) | (go_at_call 93;(with_reducible refine(HG.out _).mono ?_);rintro e w1 ⟨rfl,t1⟩;have H1:=zh (((zr W).alloc _).trans t1);clear t1))
    go_ret;exact⟨rfl,H1.out⟩
   ·rw[decide_eq_false h4] at HV2;have hv2:decide (goodR ⟨neg,num,den⟩)=false:=by simp[goodR,h4]
    rw[hv2];clear hv hv2 hz h1 h2 h3 h4 hn hd;go_enter Tryz.func51,Tryz.ntmps51;go_wp2_with (go_at_call 92;(first | ((with_reducible refine(HV1.out _).mono ?_);rintro e w' ⟨rfl,hw⟩;rw[hw];clear hw) | ((with_reducible refine(HV2.out _).mono ?_);rintro e w' ⟨rfl,hw⟩;rw[hw];clear hw)))
    go_ret;exact⟨rfl,(Turned.refl _ W).alloc _⟩
  ·rw[decide_eq_false h3] at HV1;have hv2:decide (goodR ⟨neg,num,den⟩)=false:=by simp[goodR,h3]
   rw[hv2];clear hv hv2 hz h1 h2 h3 hn hd;go_enter Tryz.func51,Tryz.ntmps51;go_wp2_with (go_at_call 92;(with_reducible refine(HV1.out _).mono ?_);rintro e w' ⟨rfl,hw⟩;rw[hw];clear hw);go_ret;exact⟨rfl,(Turned.refl _ W).alloc _⟩
theorem encB_one:encB 1=⟨#[1]⟩:=by unfold encB;rw[encN_pos (by decide),show 1 / 256=0 from rfl,encN_zero];rfl
theorem new_second(W:World) (o1 o2:Obj):((W.alloc o1).alloc o2).heap[W.heap.size+1]? = some o2:=by
 have:=World.alloc_heap_new (W.alloc o1) o2;simpa using this
theorem new_first(W:World) (o1 o2:Obj):((W.alloc o1).alloc o2).heap[W.heap.size]? = some o1:=by
 rw[Turned.block (C:=fun _=>False) ((Turned.refl _ (W.alloc o1)).alloc o2) _ (by simp) id]
 exact World.alloc_heap_new W o1
theorem box3{w:World} {b t:Nat} {x y z:Value} (h:w.heap[b]? = some (.cells #[x,y,z] t (0,0))):w.cell? ⟨b,0,none⟩=some x/\w.cell? ⟨b,1,none⟩=some y/\w.cell? ⟨b,2,none⟩=some z/\w.frozen? ⟨b,0,none⟩=false/\w.frozen? ⟨b,1,none⟩=false/\w.frozen? ⟨b,2,none⟩=false:=by
 simp[World.cell?,World.frozen?,h]
theorem set3{w:World} {b t:Nat} {x y z:Value} (h:w.heap[b]? = some (.cells #[x,y,z] t (0,0))) (u v r:Value):(((w.setCell ⟨b,0,none⟩ u).setCell ⟨b,1,none⟩ v).setCell ⟨b,2,none⟩ r).heap[b]? = some (.cells #[u,v,r] t (0,0))/\Turned (fun k=>k=b) w (((w.setCell ⟨b,0,none⟩ u).setCell ⟨b,1,none⟩ v).setCell ⟨b,2,none⟩ r):=by
 refine⟨?_,((((Turned.refl (fun k=>k=b) w).setCell (p:=⟨b,0,none⟩) rfl u).setCell (p:=⟨b,1,none⟩) rfl v).setCell (p:=⟨b,2,none⟩) rfl r)⟩
 rw[set_block (set_block (set_block h 0 u) 1 v) 2 r];simp
theorem results_frac(tmps:Array Value) (w:World) (g:Nat) (a b c:Value) (hp:tmps.getD 2 undef=.pointer (some ⟨g,0,none⟩)) (hg:w.heap[g]? = some (.cells #[a,b,c] 114 (0,0))) :
  (results Tryz.f67 tmps).run Tryz.prog w=.ok (.agg #[a,b,c]) w :=
 results_cell_row (fn:=Tryz.f67) rfl tmps w g 114 #[a,b,c] (0,0) _ hp hg Tryz.underlying114 rfl (by kernel_rfl)
theorem qOf_any(u:Rv) (W:World) (hn:u.num.size<=400000000) (hd:u.den.size<=400000000):Calls Tryz.prog 67 #[ratV u] W fun e w'=>e=.returned (frV (fracR u))/\Turned (fun _=>False) W w':=by
 have HV:=zh (fun W=>qValid_any u W hn hd)
 obtain⟨neg,num,den⟩:=u;by_cases h1:num=⟨#[]⟩
 ·have hf:fracR ⟨neg,num,den⟩=(false,0,1):=by unfold fracR;rw[if_neg];simp[goodR,h1]
  rw[hf];clear hf hn hd;subst h1;go_enter Tryz.func67,Tryz.ntmps67;go_wp2_with fail;refine bodyPost_ret (results_frac _ _ (W.heap.size+1) _ _ _ rfl (new_second _ _ _)) rfl ?_;show Ending.returned _=Ending.returned (.agg #[.bool false,.string (encB 0),.string (encB 1)])/\_;rw[encB_zero,encB_one];exact⟨rfl,((Turned.refl _ W).alloc _).alloc _⟩
 ·obtain⟨l1,l2⟩:=bytes_ne h1;have hz:(⟨neg,num,den⟩ : Rv)≠zeroR:=by simp[zeroR,h1]
  have hvg:decide (validR ⟨neg,num,den⟩)=decide (goodR ⟨neg,num,den⟩):=by simp[validR,hz]
  rw[hvg] at HV;by_cases h2:goodR ⟨neg,num,den⟩
  ·rw[decide_eq_true h2] at HV;have hf:fracR ⟨neg,num,den⟩=(neg,natB num,natB den):=by unfold fracR;rw[if_pos h2]
   have HE:Hid (encB (natB num)=num/\encB (natB den)=den):=zh ⟨h2.2.2.1,h2.2.2.2.1⟩;rw[hf];clear hf hn hd h1 h2 hz hvg;go_enter Tryz.func67,Tryz.ntmps67;go_wp2_with fail;refine(HV.out _).mono ?_;rintro e w1 ⟨rfl,t1⟩;have b1:=(t1.block W.heap.size (by simp;omega) id).trans (new_first W _ _)
   have b2:=(t1.block (W.heap.size+1) (by simp) id).trans (new_second W _ _)
   obtain⟨c0,c1,c2,-,-,-⟩:=box3 b1;obtain⟨d0,d1,d2,f0,f1,f2⟩:=box3 b2;have HS:=zh (And.intro b2 (((((zr W).alloc _).alloc _).trans t1)));clear b1 b2 t1;go_wp2_with fail;obtain⟨k1,k2⟩:=set3 HS.out.1 (.bool neg) (.string num) (.string den);refine bodyPost_ret (results_frac _ _ (W.heap.size+1) _ _ _ rfl k1) rfl ?_;show Ending.returned _=Ending.returned (.agg #[.bool neg,.string (encB (natB num)),.string (encB (natB den))])/\_;rw[HE.out.1,HE.out.2];exact⟨rfl,HS.out.2.fresh k2 fun g hg=>by omega⟩
  ·rw[decide_eq_false h2] at HV;have hf:fracR ⟨neg,num,den⟩=(false,0,1):=by unfold fracR;rw[if_neg h2]
   rw[hf];clear hf hn hd h1 h2 hz hvg;go_enter Tryz.func67,Tryz.ntmps67;go_wp2_with fail;refine(HV.out _).mono ?_;rintro e w1 ⟨rfl,t1⟩;have b2:=(t1.block (W.heap.size+1) (by simp) id).trans (new_second W _ _)
   obtain⟨d0,d1,d2,f0,f1,f2⟩:=box3 b2;have HS:=zh (And.intro b2 (((((zr W).alloc _).alloc _).trans t1)));clear b2 t1;go_wp2_with fail;obtain⟨k1,k2⟩:=set3 HS.out.1 (.bool false) (.string ⟨#[]⟩) (.string ⟨#[1]⟩);refine bodyPost_ret (results_frac _ _ (W.heap.size+1) _ _ _ rfl k1) rfl ?_;show Ending.returned _=Ending.returned (.agg #[.bool false,.string (encB 0),.string (encB 1)])/\_;rw[encB_zero,encB_one];exact⟨rfl,HS.out.2.fresh k2 fun g hg=>by omega⟩
attribute [local go_sem ↓] run_eql_rat' run_neq_rat'
theorem keepB{w w':World} (t:Turned (fun _=>False) w w') {b:Nat} {o:Obj} (h:w.heap[b]? = some o):w'.heap[b]? = some o:=(t.block b (getElem?_lt h) id).trans h
theorem results_low(tmps:Array Value) (w:World) (g:Nat) (a b c:Value) (hp:tmps.getD 2 undef=.pointer (some ⟨g,0,none⟩)) (hg:w.heap[g]? = some (.cells #[a,b,c] 68 (0,0))) :
  (results Tryz.f73 tmps).run Tryz.prog w=.ok (.agg #[a,b,c]) w :=
 results_cell_row (fn:=Tryz.f73) rfl tmps w g 68 #[a,b,c] (0,0) _ hp hg Tryz.underlying68 rfl (by kernel_rfl)
theorem encB_lt(n:Nat):n < 256 ^ (encB n).size:=by
 have h:=valB_lt (encB n).data.toList;have h2:(encB n).data.toList.length=(encB n).size:=by simp
 rw[h2] at h;have h3:valB (encB n).data.toList=n:=natB_encB n;rwa [h3] at h
theorem encB_le{n k:Nat} (h:n < 256 ^ k):(encB n).size<=k:=by
 have:=encN_len_le h;have h2:(encN n).length=(encB n).size:=by unfold encB;simp[ByteArray.size]
 omega
theorem encB_mono{m n:Nat} (h:m<=n):(encB m).size<=(encB n).size:=encB_le (Nat.lt_of_le_of_lt h (encB_lt n))
theorem encB_mul(m n:Nat):(encB (m*n)).size<=(encB m).size+(encB n).size:=encB_le (by rw[Nat.pow_add];exact Nat.mul_lt_mul'' (encB_lt m) (encB_lt n))
theorem encB_add{m n k:Nat} (hm:(encB m).size<=k) (hn:(encB n).size<=k):(encB (m+n)).size<=k+1:=encB_le (by
 have h1:=Nat.lt_of_lt_of_le (encB_lt m) (Nat.pow_le_pow_right (by decide:0 < 256) hm)
 have h2:=Nat.lt_of_lt_of_le (encB_lt n) (Nat.pow_le_pow_right (by decide:0 < 256) hn)
 rw[Nat.pow_succ];omega)
theorem encB_ne{n:Nat} (h:n≠0):encB n≠⟨#[]⟩:=fun h2=>h (encB_nil.1 h2)
theorem low_any(f:Bool×Nat×Nat) (W:World) (hd:f.2.2≠0) (h1:(encB f.2.1).size<=400000000) (h2:(encB f.2.2).size<=400000000):Calls Tryz.prog 73 #[frV f] W fun e w'=>e=.returned (ratV (lowR f.1 f.2.1 f.2.2))/\Turned (fun _=>False) W w':=by
 obtain⟨neg,n,d⟩:=f;by_cases h0:n=0
 ·have hf:lowR neg n d=⟨false,⟨#[]⟩,⟨#[]⟩⟩:=by unfold lowR;rw[if_pos h0];rfl
  show Calls Tryz.prog 73 #[.agg #[.bool neg,.string (encB n),.string (encB d)]] W fun e w'=>e=.returned (ratV (lowR neg n d))/\_
  rw[hf,h0,encB_zero];obtain⟨D,hD⟩ : ∃D,encB d=D:=⟨_,rfl⟩;rw[hD];clear hf h0 h1 h2 hd hD;go_enter Tryz.func73,Tryz.ntmps73;go_wp2_with fail;refine bodyPost_ret (results_low _ _ (W.heap.size+1) _ _ _ rfl (new_second _ _ _)) rfl ?_;exact⟨rfl,((Turned.refl _ W).alloc _).alloc _⟩
 ·have hf:lowR neg n d=⟨neg,encB (n / Nat.gcd n d),encB (d / Nat.gcd n d)⟩:=by unfold lowR;rw[if_neg h0]
  show Calls Tryz.prog 73 #[.agg #[.bool neg,.string (encB n),.string (encB d)]] W fun e w'=>e=.returned (ratV (lowR neg n d))/\_
  rw[hf];have hg0:Nat.gcd n d≠0:=fun h=>h0 (Nat.gcd_eq_zero_iff.1 h).1
  have h3:(encB (Nat.gcd n d)).size<=400000000:=Nat.le_trans (encB_mono (Nat.le_of_dvd (Nat.pos_of_ne_zero h0) (Nat.gcd_dvd_left n d))) h1;have HG:=zh (fun W=>nGcd_any (encB n) (encB d) W h1 h2)
  have HN:=zh (fun W=>nDivMod_any (encB n) (encB (Nat.gcd n d)) W h1 h3 (by rw[natB_encB];exact hg0))
  have HD:=zh (fun W=>nDivMod_any (encB d) (encB (Nat.gcd n d)) W h2 h3 (by rw[natB_encB];exact hg0))
  rw[natB_encB,natB_encB] at HG HN HD;obtain⟨l1,l2⟩:=bytes_ne (encB_ne h0);obtain⟨N,hN⟩ : ∃N,encB n=N:=⟨_,rfl⟩;obtain⟨D,hD⟩ : ∃D,encB d=D:=⟨_,rfl⟩;obtain⟨G,hG⟩ : ∃G,encB (Nat.gcd n d)=G:=⟨_,rfl⟩;obtain⟨N',hN'⟩ : ∃N',encB (n / Nat.gcd n d)=N':=⟨_,rfl⟩;obtain⟨D',hD'⟩ : ∃D',encB (d / Nat.gcd n d)=D':=⟨_,rfl⟩;obtain⟨RN,hRN⟩ : ∃x,encB (n % Nat.gcd n d)=x:=⟨_,rfl⟩;obtain⟨RD,hRD⟩ : ∃x,encB (d % Nat.gcd n d)=x:=⟨_,rfl⟩;rw[hN,hD,hG] at HG;rw[hN,hG,hN',hRN] at HN;rw[hD,hG,hD',hRD] at HD;rw[hN] at l1 l2;rw[hN,hD,hN',hD'];clear hf h0 hd h1 h2 hg0 h3 hN hD hG hN' hD' hRN hRD;go_enter Tryz.func73,Tryz.ntmps73;go_wp2_with fail;refine(HG.out _).mono ?_;rintro e w1 ⟨rfl,t1⟩;have b1:=keepB t1 (new_first W _ _);have b2:=keepB t1 (new_second W _ _);have T1:=(((zr W).alloc _).alloc _).trans t1;obtain⟨c0,c1,c2,-,-,-⟩:=box3 b1;have HS:=zh (And.intro b1 (And.intro b2 T1));clear b1 b2 t1 T1;go_wp2_with fail;refine(HN.out _).mono ?_;rintro e w2 ⟨rfl,t1⟩;have b1:=keepB t1 HS.out.1;have b2:=keepB t1 HS.out.2.1;have T1:=HS.out.2.2.trans t1;clear c0 c1 c2 HS;obtain⟨c0,c1,c2,-,-,-⟩:=box3 b1;have HS:=zh (And.intro b1 (And.intro b2 T1));clear b1 b2 t1 T1;go_wp2_with fail;refine(HD.out _).mono ?_;rintro e w3 ⟨rfl,t1⟩;have b1:=keepB t1 HS.out.1;have b2:=keepB t1 HS.out.2.1;have T1:=HS.out.2.2.trans t1;clear c0 c1 c2 HS;obtain⟨c0,c1,c2,-,-,-⟩:=box3 b1;obtain⟨d0,d1,d2,f0,f1,f2⟩:=box3 b2;have HS:=zh (And.intro b1 (And.intro b2 T1));clear b1 b2 t1 T1;go_wp2_with fail;obtain⟨k1,k2⟩:=set3 HS.out.2.1 (.bool neg) (.string N') (.string D');refine bodyPost_ret (results_low _ _ (W.heap.size+1) _ _ _ rfl k1) rfl ?_;exact⟨rfl,HS.out.2.2.fresh k2 fun g hg=>by omega⟩
end Go.Proofs.YtanhhdndgkhcfaaGreatDoor
