import Derived.Test.YtpoafhgbhnblmaaGreatDoorF03
import Derived.RangeFuncNested
import Derived.RangeFuncBound
import Derived.Shelf.RegionOpen
import Derived.OwnWalkIn
import Derived.LoopNIn
import Derived.LoopIn
import Derived.Deep.RegionHeld3
set_option linter.unusedVariables false
set_option linter.unusedSimpArgs false
set_option maxRecDepth 100000
set_option maxHeartbeats 20000000
namespace Go.Proofs.YtpoafhgbhnblmaaGreatDoor
open Go.Proofs.Tryz (prog)
def trimF(l:List UInt8):List UInt8:=l.dropWhile (· == 32)
def dF(l:List UInt8):List UInt8:=(l.reverse.dropWhile (· == 32)).reverse
def trimS(l:List UInt8):List UInt8:=dF (trimF l)
theorem Oh(l:List UInt8):dF (l++[32])=dF l:=by
 unfold dF;rw[List.reverse_append];show ((32 :: l.reverse).dropWhile _).reverse=_;rw[List.dropWhile_cons_of_pos (by decide)]
theorem Oi(l:List UInt8)(c:UInt8)(h:c≠32):dF (l++[c])=l++[c]:=by
 unfold dF;rw[List.reverse_append];show ((c :: l.reverse).dropWhile _).reverse=_;rw[List.dropWhile_cons_of_neg (by simpa using h)];simp
theorem wH(l:List UInt8):trimF (32 :: l)=trimF l:=by
 unfold trimF;rw[List.dropWhile_cons_of_pos (by decide)]
theorem zN(l:List UInt8)(c:UInt8)(h:c≠32):trimF (c :: l)=c :: l:=by
 unfold trimF;rw[List.dropWhile_cons_of_neg (by simpa using h)]
def pX:List UInt8→Nat
 | []=>0
 |c :: l=>if c=32 then pX l+1 else 0
theorem BD:∀l:List UInt8,trimF l=l.drop (pX l)
 | []=>rfl
 |c :: l=>by
  unfold pX;split
  ·rename_i h;subst h;rw[wH,BD l];rfl
  ·rename_i h;rw[zN _ _ h];rfl
theorem Oj:∀l:List UInt8,pX l≤l.length
 | []=>aeo _
 |c :: l=>by unfold pX;have:=Oj l;split <;> simp <;> omega
theorem Ol(l:List UInt8):(trimF l).head?≠some 32:=by
 induction l with
 |nil=>decide
 |cons c l ih=>
  by_cases h:c=32
  ·subst h;rw[wH];exact ih
  ·rw[zN _ _ h];simpa using h
theorem VW(l:List UInt8):(dF l).getLast?≠some 32:=by
 have:=Ol l.reverse;unfold dF;rw[List.getLast?_reverse];exact this
theorem VX(l:List UInt8):∃r,l=dF l++r:=by
 unfold dF;refine⟨(l.reverse.takeWhile (· == 32)).reverse,?_⟩;rw[←List.reverse_append,List.takeWhile_append_dropWhile,List.reverse_reverse]
theorem pY(l:List UInt8):(trimS l).length≤l.length:=by
 unfold trimS;obtain⟨r,hr⟩:=VX (trimF l);have:=congrArg List.length hr;rw[aey,BD,List.length_drop] at this;rw[BD] at *;omega
def ahead(c:UInt8):List (List UInt8)→List (List UInt8)
 | []=>[[c]]
 |h :: t=>(c :: h) :: t
def jl:Bool→List UInt8→List (List UInt8)
 |_,[]=>[[]]
 |e,c :: l=>if c=124∧e=false then [] :: jl false l else ahead c (jl (c==92) l)
theorem VY(l:List UInt8):jl false (124 :: l)=[] :: jl false l:=by
 show (if (124:UInt8)=124∧false=false then _ else _)=_;rw[if_pos ⟨rfl,rfl⟩]
theorem VZ(e:Bool)(c:UInt8)(l:List UInt8)(h:¬(c=124∧e=false)):jl e (c :: l)=ahead c (jl (c==92) l):=by
 show (if _ then _ else _)=_;rw[if_neg h]
theorem zO:∀(l:List UInt8) (e:Bool),jl e l≠[]
 | [],_=>by simp[jl]
 |c :: l,e=>by
  unfold jl;split
  ·simp
  ·have:=zO l (c==92);cases h:jl (c==92) l with
   |nil=>exact absurd h this
   |cons a b=>simp[ahead]
def BF:List UInt8→List (List UInt8)→List (List UInt8)
 |p,[]=>[p]
 |p,h :: t=>(p++h) :: t
theorem V2(p:List UInt8)(c:UInt8)(ls:List (List UInt8))(h:ls≠[]):BF p (ahead c ls)=BF (p++[c]) ls:=by
 cases ls with
 |nil=>exact absurd rfl h
 |cons a b=>simp[ahead,BF]
theorem Om(ls:List (List UInt8))(h:ls≠[]):BF [] ls=ls:=by
 cases ls with
 |nil=>exact absurd rfl h
 |cons a b=>rfl
def fK(s:ByteArray)(i:Nat):Bool:=bt s i==124&&(i==0||bt s (i - 1) != 92)
def zQ(s:ByteArray)(i:Nat):Bool:=decide (0<i)&&bt s (i - 1)==92
def dO(s:ByteArray)(a i:Nat):List (List UInt8):=BF (sub s a i) (jl (zQ s i) (sfx s i))
theorem sub_self(s:ByteArray)(i:Nat):sub s i i=[]:=by unfold sub;simp
theorem xF(s:ByteArray)(a i:Nat)(h:a≤i)(hi:i<s.size):sub s a (i+1)=sub s a i++[s.get! i]:=by
 unfold sub;rw[show i+1 - a=(i - a)+1 by omega,List.take_add_one];congr 1;rw[List.getElem?_drop,show a+(i - a)=i by omega];have:=bV s i hi;unfold sfx at this;have h2:(bytesL s)[i]?=some (s.get! i):=by
  rw[←List.head?_drop,this];rfl
 rw[h2];rfl
theorem Oo(s:ByteArray)(i:Nat):fK s i=true↔(s.get! i=124∧zQ s i=false):=by
 have h:s.get! i=124↔bt s i=124:=eY s i 124 (by decide);unfold fK zQ;rw[h];simp only[Bool.and_eq_true,Bool.or_eq_true,beq_iff_eq,aeB,ne_eq,Bool.and_eq_false_iff,decide_eq_false_iff_not,aes];constructor
 ·rintro ⟨h1,h2|h2⟩
  ·exact⟨h1,Or.inl (by omega)⟩
  ·exact⟨h1,Or.inr h2⟩
 ·rintro ⟨h1,h2|h2⟩
  ·exact⟨h1,Or.inl (by omega)⟩
  ·exact⟨h1,Or.inr h2⟩
theorem Oq(s:ByteArray)(i:Nat):zQ s (i+1)=(s.get! i==92):=by
 have h:s.get! i=92↔bt s i=92:=eY s i 92 (by decide);unfold zQ;rw[Bool.eq_iff_iff];simp only[Nat.add_sub_cancel,Bool.and_eq_true,decide_eq_true_eq,beq_iff_eq,h];exact⟨fun e=>e.2,fun e=>⟨by omega,e⟩⟩
theorem Ot(s:ByteArray)(a i:Nat)(hi:i<s.size)(h:fK s i=true):dO s a i=sub s a i :: dO s (i+1) (i+1):=by
 obtain⟨h1,h2⟩:=(Oo s i).1 h;unfold dO;rw[bV s i hi,h2,h1,VY,sub_self,Om _ (zO _ _),Oq,h1];show (sub s a i++[]) :: _=_;rw[List.append_nil];rfl
theorem Ou(s:ByteArray)(a i:Nat)(ha:a≤i)(hi:i<s.size)(h:fK s i=false):dO s a i=dO s a (i+1):=by
 have h':¬(s.get! i=124∧zQ s i=false):=fun e=>by rw[(Oo s i).2 e] at h;exact absurd h (by simp)
 unfold dO;rw[bV s i hi,VZ _ _ _ h',V2 _ _ _ (zO _ _),xF s a i ha hi,Oq]
theorem Ov(s:ByteArray)(a i:Nat)(hi:s.size≤i):dO s a i=[sub s a i]:=by
 unfold dO;rw[kU s i hi];show [sub s a i++[]]=_;rw[List.append_nil]
theorem I9(s:ByteArray):dO s 0 0=jl false (bytesL s):=by
 unfold dO;rw[sub_self,Om _ (zO _ _)];rfl
theorem BG:∀(l:List UInt8) (e:Bool),(jl e l).length≤l.length+1
 | [],_=>by simp[jl]
 |c :: l,e=>by
  unfold jl;split
  ·have:=BG l false;simp;omega
  ·have:=BG l (c==92);have h:=zO l (c==92);cases hs:jl (c==92) l with
   |nil=>exact absurd hs h
   |cons a b=>rw[hs] at this;simp[ahead] at this ⊢;omega
theorem zS:∀(l:List UInt8) (e:Bool),∀p∈jl e l,p.length≤l.length
 | [],_,p,hp=>by simp[jl] at hp;subst hp;simp
 |c :: l,e,p,hp=>by
  unfold jl at hp;split at hp
  ·rcases List.mem_cons.1 hp with rfl|hp
   ·simp
   ·have:=zS l false p hp;simp;omega
  ·cases hs:jl (c==92) l with
   |nil=>exact absurd hs (zO _ _)
   |cons a b=>
    rw[hs] at hp;rcases List.mem_cons.1 hp with rfl|hp
    ·have:=zS l (c==92) a (by rw[hs];exact List.mem_cons_self);simp;omega
    ·have:=zS l (c==92) p (by rw[hs];exact List.mem_cons_of_mem _ hp);simp;omega
def fD:List UInt8→List UInt8
 | []=>[]
 |c :: l=>if c=92∧l.head?=some 124 then (match l with | []=>[] | d :: l'=>d :: fD l') else c :: fD l
theorem EP(c:UInt8)(l:List UInt8):fD (c :: l)=if c=92∧l.head?=some 124 then (match l with | []=>[] | d :: l'=>d :: fD l') else c :: fD l:=by cases l <;> rfl
theorem Ox(l:List UInt8):fD (92 :: 124 :: l)=124 :: fD l:=by rw[EP,if_pos ⟨rfl,rfl⟩]
theorem Ja(c:UInt8)(l:List UInt8)(h:¬(c=92∧l.head?=some 124)):fD (c :: l)=c :: fD l:=by rw[EP,if_neg h]
def iW:List UInt8:=[92,124]
theorem V3(l:List UInt8)(i:Nat):Lib.occAt l iW i=true↔((l.drop i).head?=some 92∧(l.drop (i+1)).head?=some 124):=by
 unfold Lib.occAt iW;rw[←List.drop_drop];generalize l.drop i=m;cases m with
 |nil=>simp
 |cons a m=>
  cases m with
  |nil=>simp
  |cons b m=>
   show ((92:UInt8)==a&&((124:UInt8)==b&&true))=true↔(some a=some 92∧some b=some 124);simp only[Bool.and_true,Bool.and_eq_true,beq_iff_eq,Option.some.injEq];exact⟨fun h=>⟨h.1.symm,h.2.symm⟩,fun h=>⟨h.1.symm,h.2.symm⟩⟩
theorem ER(c:UInt8)(l:List UInt8):Lib.occAt (c :: l) iW 0=true↔(c=92∧l.head?=some 124):=by
 rw[V3];simp
theorem occ_succ(c:UInt8)(l s:List UInt8)(i:Nat):Lib.occAt (c :: l) s (i+1)=Lib.occAt l s i:=rfl
theorem Oy:∀l:List UInt8,(∀j,j≤l.length→Lib.occAt l iW j=false)→fD l=l
 | [],_=>rfl
 |c :: l,h=>by
  rw[Ja c l (fun e=>by have:=h 0 (by simp);rw[(ER c l).2 e] at this;exact absurd this (by simp)),Oy l (fun j hj=>by rw[←occ_succ c];exact h (j+1) (by simp;omega))]
theorem Oz:∀(i:Nat) (l:List UInt8),Lib.occAt l iW i=true→Lib.NoOcc l iW i→fD l=l.take i++[124]++fD (l.drop (i+2))
 |0,l,h,_=>by
  match l with
  | []=>simp[Lib.occAt,iW] at h
  | [c]=>rw[ER] at h;simp at h
  |c :: d :: l=>
   rw[ER] at h;obtain⟨rfl,h⟩:=h;obtain rfl:d=124:=by simpa using h
   rw[Ox];rfl
 |i+1,l,h,hn=>by
  match l with
  | []=>simp[Lib.occAt,iW] at h
  |c :: l=>
   rw[occ_succ] at h;have h0:=hn 0 (by omega);rw[Ja c l (fun e=>by rw[(ER c l).2 e] at h0;exact absurd h0 (by simp)),Oz i l h (fun j hj=>by rw[←occ_succ c];exact hn (j+1) (by omega))];rfl
theorem OA:∀(n:Nat) (l:List UInt8),l.length≤n→Lib.replaceK iW [124] (Lib.count l iW) l=fD l
 |n,l,hl=>by
  rcases Lib.index_spec l iW with ⟨h1,h2⟩|⟨i,h1,h2,h3,h4⟩
  ·rw[Lib.count_miss h1,Oy l h2];rfl
  ·have hr:=Lib.index_room l iW (by rw[h1];omega);rw[h1] at hr;have hr2:i+2≤l.length:=by have:iW.length=2:=rfl;omega
   rw[Lib.count_hit (by decide) h1,Nat.add_comm,Lib.replaceK_hit _ _ _ _ i h1,Oz i l h3 h4];match n with
   |0=>omega
   |n+1=>rw[OA n (l.drop (i+iW.length)) (by rw[List.length_drop];have:iW.length=2:=rfl;omega)];rfl
def ah(s:ByteArray)(k:Nat):Nat:=k+pX (sfx s k)
theorem qR(s:ByteArray)(k:Nat):s.get! k=32↔bt s k=32:=eY s k 32 (by decide)
theorem ES(s:ByteArray)(k:Nat)(h:s.size≤k):ah s k=k:=by unfold ah;rw[kU s k h];rfl
theorem ET(s:ByteArray)(k:Nat)(h:k<s.size)(hc:bt s k=32):ah s k=ah s (k+1):=by
 unfold ah;rw[bV s k h];show k+(if s.get! k=32 then pX (sfx s (k+1))+1 else 0)=_;rw[if_pos ((qR s k).2 hc)];omega
theorem EU(s:ByteArray)(k:Nat)(h:k<s.size)(hc:bt s k≠32):ah s k=k:=by
 unfold ah;rw[bV s k h];show k+(if s.get! k=32 then pX (sfx s (k+1))+1 else 0)=_;rw[if_neg (fun e=>hc ((qR s k).1 e))];rfl
theorem kC(s:ByteArray):ah s 0≤s.size:=by
 unfold ah;have:=Oj (sfx s 0);rw[sfx_len] at this;omega
theorem OB(s:ByteArray):bytesL (s.extract (ah s 0) s.size)=trimF (bytesL s):=by
 rw[extract_drop,bytesL_mk',BD];unfold sfx ah sfx;rw[List.drop_zero,Nat.zero_add]
theorem Jb(x:ByteArray)(h:0<x.size):bytesL x=bytesL (x.extract 0 (x.size - 1))++[x.get! (x.size - 1)]:=by
 have:=xF x 0 (x.size - 1) (by omega) (by omega);rw[show x.size - 1+1=x.size by omega] at this;have e:sub x 0 x.size=bytesL x:=by
  unfold sub;rw[List.drop_zero,List.take_of_length_le (by rw[bytesL_length];omega)]
 rw[←e,this,bytesL_sub]
theorem OC(x:ByteArray)(h:0<x.size)(hc:bt x (x.size - 1)=32):dF (bytesL x)=dF (bytesL (x.extract 0 (x.size - 1))):=by
 rw[Jb x h,(qR x _).2 hc,Oh]
theorem OD(x:ByteArray)(h:0<x.size)(hc:bt x (x.size - 1)≠32):dF (bytesL x)=bytesL x:=by
 rw[Jb x h,Oi _ _ (fun e=>hc ((qR x _).1 e))]
theorem OE(x:ByteArray)(h:x.size=0):dF (bytesL x)=bytesL x:=by
 rw[(size_nil x).1 h];rfl
def strLen:Value→Nat
 | .string b=>b.size
 |_=>0
open Go.RowKit
theorem zT(s:ByteArray)(w:World)(hs:s.size≤1000000):Calls prog 58 #[.string s] w fun e w'=>e=.returned (.int .i64 (ah s 0))∧w=w':=by
 generalize hR:ah s 0=R at *;have HR:=aen hR;clear hR;go_enter Tryz.func58,Tryz.ntmps58;go_wp2;go_loop [3] (fun v=>∃k:Nat,k≤s.size∧v=.int .i64 k∧Hid (ah s k=R)) (fun v=>s.size - (intOf v).toNat);case atStart=>exact⟨0,by omega,rfl,HR⟩
 case round=>
  obtain⟨k,hk,rfl,Hk⟩:=hrel;by_cases hlt:k<s.size
  ·have hlt2:((s[k].toNat:Nat):Int)<256:=by rw[get_bt s k hlt];have:=aK s k;omega
   by_cases hc:bt s k=32
   ·have z:(((s[k].toNat:Nat):Int)==32)=true:=by rw[get_bt s k hlt,hc];rfl
    have HF:Hid (ah s (k+1)=R):=aen (by rw[←Hk.out,ET s k hlt hc]);clear hc;go_wp2_with fail;go_round;case rel=>exact⟨k+1,by omega,by go_num,HF⟩
    case measure=>simp[intOf];omega
   ·have z:(((s[k].toNat:Nat):Int)==32)=false:=by rw[get_bt s k hlt,aes];omega
    have HF:Hid (k=R):=aen (by rw[←Hk.out,EU s k hlt hc]);clear hc;go_wp2_with fail;go_ret;exact⟨iy (by rw[HF.out]),rfl⟩
  ·have HF:Hid (k=R):=aen (by rw[←Hk.out,ES s k (by omega)]);go_wp2_with fail;go_ret;exact⟨iy (by rw[HF.out]),rfl⟩
theorem BH(s:ByteArray)(w:World)(hs:s.size≤1000000):Calls prog 26 #[.string s] w fun e w'=>e=.returned (.int .i64 (ah s 0))∧w=w':=by
 generalize hR:ah s 0=R at *;have HR:=aen hR;clear hR;go_enter Tryz.func26,Tryz.ntmps26;go_wp2;go_loop [3] (fun v=>∃k:Nat,k≤s.size∧v=.int .i64 k∧Hid (ah s k=R)) (fun v=>s.size - (intOf v).toNat);case atStart=>exact⟨0,by omega,rfl,HR⟩
 case round=>
  obtain⟨k,hk,rfl,Hk⟩:=hrel;by_cases hlt:k<s.size
  ·have hlt2:((s[k].toNat:Nat):Int)<256:=by rw[get_bt s k hlt];have:=aK s k;omega
   by_cases hc:bt s k=32
   ·have z:(((s[k].toNat:Nat):Int)==32)=true:=by rw[get_bt s k hlt,hc];rfl
    have HF:Hid (ah s (k+1)=R):=aen (by rw[←Hk.out,ET s k hlt hc]);clear hc;go_wp2_with fail;go_round;case rel=>exact⟨k+1,by omega,by go_num,HF⟩
    case measure=>simp[intOf];omega
   ·have z:(((s[k].toNat:Nat):Int)==32)=false:=by rw[get_bt s k hlt,aes];omega
    have HF:Hid (k=R):=aen (by rw[←Hk.out,EU s k hlt hc]);clear hc;go_wp2_with fail;go_ret;exact⟨iy (by rw[HF.out]),rfl⟩
  ·have HF:Hid (k=R):=aen (by rw[←Hk.out,ES s k (by omega)]);go_wp2_with fail;go_ret;exact⟨iy (by rw[HF.out]),rfl⟩
theorem uT(s:ByteArray)(w:World)(hs:s.size≤1000000):Calls prog 105 #[.string s] w fun e w'=>e=.returned (.string (mk (trimS (bytesL s))))∧w=w':=by
 have HI:=aen fun W=>zT s W hs;have hi:=kC s;have HX:=aen (show dF (bytesL (s.extract (ah s 0) s.size))=trimS (bytesL s) by rw[OB];rfl);have hz:(s.extract (ah s 0) s.size).size≤s.size:=by rw[aex];omega
 generalize trimS (bytesL s)=R at *;generalize ah s 0=I at *;go_enter Tryz.func105,Tryz.ntmps105;go_wp2_with fail;with_reducible refine(HI.out _).mono ?_
 rintro e w0 ⟨rfl,rfl⟩;go_wp2_with fail;go_loop [0] (fun v=>∃x:ByteArray,v=.string x∧x.size≤s.size∧Hid (dF (bytesL x)=R)) (fun v=>strLen v);case atStart=>exact⟨_,rfl,hz,HX⟩
 case round=>
  clear hz HX;obtain⟨x,rfl,hx,Hx⟩:=hrel;by_cases h0:x.size=0
  ·have HF:Hid (mk R=x):=aen (by rw[←Hx.out,OE x h0,eX]);obtain⟨x1,x2⟩:=wE x ((size_nil x).1 h0);go_wp2_with fail;go_ret;exact⟨dX HF.out.symm,rfl⟩
  ·obtain⟨x1,x2⟩:=iV x (fun e=>h0 ((size_nil x).2 e));have hpos:0<x.size:=by omega
   have hlt:x.size - 1<x.size:=by omega
   have hcast:((x.size:Int) - 1)=((x.size - 1:Nat):Int):=by omega
   have oM:((x.size:Int) - 1).toNat=x.size - 1:=by omega
   by_cases hc:bt x (x.size - 1)=32
   ·have z:(((x[x.size - 1].toNat:Nat):Int)==32)=true:=by rw[get_bt x _ hlt,hc];rfl
    have HF:Hid (dF (bytesL (x.extract 0 (x.size - 1)))=R):=aen (by rw[←Hx.out,OC x hpos hc]);have hz:(x.extract 0 (x.size - 1)).size=x.size - 1:=by rw[aex];omega
    clear hc h0;go_wp2_with fail;go_round;case rel=>exact⟨_,by rfl,by rw[hz];omega,HF⟩
    case measure=>simp only[strLen];rw[hz];omega
   ·have z:(((x[x.size - 1].toNat:Nat):Int)==32)=false:=by rw[get_bt x _ hlt,aes];omega
    have HF:Hid (mk R=x):=aen (by rw[←Hx.out,OD x hpos hc,eX]);clear hc h0;go_wp2_with fail;go_ret;exact⟨dX HF.out.symm,rfl⟩
theorem Jc(s:ByteArray)(w:World)(hs:s.size≤1000000):Calls prog 140 #[.string s] w fun e w'=>e=.returned (.string (mk (trimS (bytesL s))))∧w=w':=by
 have HI:=aen fun W=>BH s W hs;have hi:=kC s;have HX:=aen (show dF (bytesL (s.extract (ah s 0) s.size))=trimS (bytesL s) by rw[OB];rfl);have hz:(s.extract (ah s 0) s.size).size≤s.size:=by rw[aex];omega
 generalize trimS (bytesL s)=R at *;generalize ah s 0=I at *;go_enter Tryz.func140,Tryz.ntmps140;go_wp2_with fail;with_reducible refine(HI.out _).mono ?_
 rintro e w0 ⟨rfl,rfl⟩;go_wp2_with fail;go_loop [0] (fun v=>∃x:ByteArray,v=.string x∧x.size≤s.size∧Hid (dF (bytesL x)=R)) (fun v=>strLen v);case atStart=>exact⟨_,rfl,hz,HX⟩
 case round=>
  clear hz HX;obtain⟨x,rfl,hx,Hx⟩:=hrel;by_cases h0:x.size=0
  ·have HF:Hid (mk R=x):=aen (by rw[←Hx.out,OE x h0,eX]);obtain⟨x1,x2⟩:=wE x ((size_nil x).1 h0);go_wp2_with fail;go_ret;exact⟨dX HF.out.symm,rfl⟩
  ·obtain⟨x1,x2⟩:=iV x (fun e=>h0 ((size_nil x).2 e));have hpos:0<x.size:=by omega
   have hlt:x.size - 1<x.size:=by omega
   have hcast:((x.size:Int) - 1)=((x.size - 1:Nat):Int):=by omega
   have oM:((x.size:Int) - 1).toNat=x.size - 1:=by omega
   by_cases hc:bt x (x.size - 1)=32
   ·have z:(((x[x.size - 1].toNat:Nat):Int)==32)=true:=by rw[get_bt x _ hlt,hc];rfl
    have HF:Hid (dF (bytesL (x.extract 0 (x.size - 1)))=R):=aen (by rw[←Hx.out,OC x hpos hc]);have hz:(x.extract 0 (x.size - 1)).size=x.size - 1:=by rw[aex];omega
    clear hc h0;go_wp2_with fail;go_round;case rel=>exact⟨_,by rfl,by rw[hz];omega,HF⟩
    case measure=>simp only[strLen];rw[hz];omega
   ·have z:(((x[x.size - 1].toNat:Nat):Int)==32)=false:=by rw[get_bt x _ hlt,aes];omega
    have HF:Hid (mk R=x):=aen (by rw[←Hx.out,OD x hpos hc,eX]);clear hc h0;go_wp2_with fail;go_ret;exact⟨dX HF.out.symm,rfl⟩
theorem OG(s:ByteArray)(i:Nat)(w:World)(hs:s.size≤1000000)(hi:i<s.size):Calls prog 213 #[.string s,.int .i64 i] w fun e w'=>e=.returned (.bool (fK s i))∧w=w':=by
 have hE:fK s i=(bt s i==124&&(i==0||bt s (i - 1) != 92)):=rfl;by_cases h1:bt s i=124
 ·have z1:(((s[i].toNat:Nat):Int)==124)=true:=by rw[get_bt s i hi,h1];rfl
  by_cases h2:i=0
  ·subst h2;have HF:Hid (fK s 0=true):=aen (by rw[hE,h1];rfl);clear hE h1;generalize fK s 0=R at *;go_enter Tryz.func213,Tryz.ntmps213;go_wp2_with fail;go_ret;exact⟨aJ HF.out.symm,rfl⟩
  ·have hlt:i - 1<s.size:=by omega
   have oM:((i:Int) - 1).toNat=i - 1:=by omega
   have HF:Hid (fK s i=((i:Int)==0||((s[i - 1].toNat:Nat):Int) != 92)):=aen (by
    rw[hE,h1,get_bt s _ hlt,show (i==0)=false by rw[aes];exact h2,show ((i:Int)==0)=false by rw[aes];omega];show (bt s (i - 1) != 92)=(((bt s (i - 1):Nat):Int) != 92);rw[Bool.eq_iff_iff];simp only[aeB,ne_eq];omega)
   clear hE h1;generalize fK s i=R at *;go_enter Tryz.func213,Tryz.ntmps213;go_wp2_with fail;go_ret;exact⟨aJ HF.out.symm,rfl⟩
 ·have z1:(((s[i].toNat:Nat):Int)==124)=false:=by rw[get_bt s i hi,aes];omega
  have HF:Hid (fK s i=false):=aen (by rw[hE,beq_eq_false_iff_ne.2 h1];rfl);clear hE h1;generalize fK s i=R at *;go_enter Tryz.func213,Tryz.ntmps213;go_wp2_with fail;go_ret;exact⟨aJ HF.out.symm,rfl⟩
theorem OH(s:ByteArray)(i:Nat)(w:World)(hs:s.size≤1000000)(hi:i<s.size):Calls prog 227 #[.string s,.int .i64 i] w fun e w'=>e=.returned (.bool (fK s i))∧w=w':=by
 have hE:fK s i=(bt s i==124&&(i==0||bt s (i - 1) != 92)):=rfl;by_cases h1:bt s i=124
 ·have z1:(((s[i].toNat:Nat):Int)==124)=true:=by rw[get_bt s i hi,h1];rfl
  by_cases h2:i=0
  ·subst h2;have HF:Hid (fK s 0=true):=aen (by rw[hE,h1];rfl);clear hE h1;generalize fK s 0=R at *;go_enter Tryz.func227,Tryz.ntmps227;go_wp2_with fail;go_ret;exact⟨aJ HF.out.symm,rfl⟩
  ·have hlt:i - 1<s.size:=by omega
   have oM:((i:Int) - 1).toNat=i - 1:=by omega
   have HF:Hid (fK s i=((i:Int)==0||((s[i - 1].toNat:Nat):Int) != 92)):=aen (by
    rw[hE,h1,get_bt s _ hlt,show (i==0)=false by rw[aes];exact h2,show ((i:Int)==0)=false by rw[aes];omega];show (bt s (i - 1) != 92)=(((bt s (i - 1):Nat):Int) != 92);rw[Bool.eq_iff_iff];simp only[aeB,ne_eq];omega)
   clear hE h1;generalize fK s i=R at *;go_enter Tryz.func227,Tryz.ntmps227;go_wp2_with fail;go_ret;exact⟨aJ HF.out.symm,rfl⟩
 ·have z1:(((s[i].toNat:Nat):Int)==124)=false:=by rw[get_bt s i hi,aes];omega
  have HF:Hid (fK s i=false):=aen (by rw[hE,beq_eq_false_iff_ne.2 h1];rfl);clear hE h1;generalize fK s i=R at *;go_enter Tryz.func227,Tryz.ntmps227;go_wp2_with fail;go_ret;exact⟨aJ HF.out.symm,rfl⟩
abbrev Pt:={x:ByteArray // x.size≤1000000}
def iJ(p:List UInt8):Pt:=if h:p.length≤1000000 then ⟨mk p,by rw[mk_size];exact h⟩ else ⟨⟨#[]⟩,by show 0≤_;omega⟩
theorem BI(p:List UInt8)(h:p.length≤1000000):(iJ p).1=mk p:=by unfold iJ;rw[dif_pos h]
theorem V4(s:ByteArray)(a i:Nat):s.extract a i=mk (sub s a i):=by rw[←bytesL_sub,eX]
theorem OI(s:ByteArray)(a i:Nat)(h:s.size≤1000000):(iJ (sub s a i)).1=s.extract a i:=by
 rw[BI _ (by have:=IB s a i;omega),V4]
def iC(l:List UInt8):ByteArray:=mk (Lib.trimPrefix (trimS l) [124])
def jm(l:List UInt8):ByteArray:=if 0<(iC l).size∧fK (iC l) ((iC l).size - 1)=true then (iC l).extract 0 ((iC l).size - 1) else iC l
def gB(l:List UInt8):List (List UInt8):=jl false (bytesL (jm l))
theorem Jd(l:List UInt8):(iC l).size≤l.length:=by
 unfold iC Lib.trimPrefix;rw[mk_size];have:=pY l;split
 ·rw[List.length_drop];omega
 ·exact this
theorem BJ(l:List UInt8):(jm l).size≤l.length:=by
 have:=Jd l;unfold jm;split
 ·rw[aex];omega
 ·exact this
section
open Go.Shelf
attribute [local go_sem] Oper.semAt_some
theorem OJ(s:ByteArray)(w:World)(hs:s.size≤1000000):Calls prog 171 #[.string s] w fun e w'=>
 e=.returned (.func (.func 214) #[] #[.pointer (some ⟨w.heap.size,0,none⟩)])∧w'=w.alloc (.cells #[.string (jm (bytesL s))] 9):=by
 have HT:=aen fun W=>uT s W hs;have HP:Hid (∀W,Calls prog 212 #[.string (mk (trimS (bytesL s))),.string ⟨#[124]⟩] W fun e w'=>e=.returned (.string (iC (bytesL s)))∧w'=W):=aen fun W=>by
  have h:=Tryz.strings_TrimPrefix (mk (trimS (bytesL s))) ⟨#[124]⟩ W;exact h
 have HX:Hid (jm (bytesL s)=if 0<(iC (bytesL s)).size∧fK (iC (bytesL s)) ((iC (bytesL s)).size - 1)=true then (iC (bytesL s)).extract 0 ((iC (bytesL s)).size - 1) else iC (bytesL s)):=aen rfl;have hz:=Jd (bytesL s);rw[bytesL_length] at hz;generalize jm (bytesL s)=R at *;generalize iC (bytesL s)=C at *;generalize mk (trimS (bytesL s))=T at *;by_cases h0:0<C.size
 ·have oM:((C.size:Int) - 1).toNat=C.size - 1:=by omega
  have hcast:((C.size:Int) - 1)=((C.size - 1:Nat):Int):=by omega
  have HS:=aen fun W=>OG C (C.size - 1) W (by omega) (by omega);cases hsb:fK C (C.size - 1)
  ·have HF:Hid (R=C):=aen (by rw[HX.out,if_neg (by rw[hsb];simp)]);rw[hsb] at HS;clear hsb;go_enter Tryz.func171,Tryz.ntmps171;go_wp2_with fail;with_reducible refine(HT.out _).mono ?_
   rintro e w0 ⟨rfl,rfl⟩;go_wp2_with fail;with_reducible refine(HP.out _).mono ?_
   rintro e w0 ⟨rfl,rfl⟩;go_wp2_with fail;with_reducible refine(HS.out _).mono ?_
   rintro e w0 ⟨rfl,rfl⟩;go_wp2_with fail;go_ret;exact⟨rfl,by rw[HF.out]⟩
  ·have HF:Hid (R=C.extract 0 (C.size - 1)):=aen (by rw[HX.out,if_pos ⟨h0,hsb⟩]);rw[hsb] at HS;clear hsb;go_enter Tryz.func171,Tryz.ntmps171;go_wp2_with fail;with_reducible refine(HT.out _).mono ?_
   rintro e w0 ⟨rfl,rfl⟩;go_wp2_with fail;with_reducible refine(HP.out _).mono ?_
   rintro e w0 ⟨rfl,rfl⟩;go_wp2_with fail;with_reducible refine(HS.out _).mono ?_
   rintro e w0 ⟨rfl,rfl⟩;go_wp2_with fail;go_ret;exact⟨rfl,by rw[HF.out]⟩
 ·have HF:Hid (R=C):=aen (by rw[HX.out,if_neg (fun e=>h0 e.1)]);go_enter Tryz.func171,Tryz.ntmps171;go_wp2_with fail;with_reducible refine(HT.out _).mono ?_
  rintro e w0 ⟨rfl,rfl⟩;go_wp2_with fail;with_reducible refine(HP.out _).mono ?_
  rintro e w0 ⟨rfl,rfl⟩;go_wp2_with fail;go_ret;exact⟨rfl,by rw[HF.out]⟩
def uU(Bn:Nat)(W W':World):Prop:=W'.heap[Bn]?=W.heap[Bn]?
theorem OK(n:Nat)(hn:1≤n)(Bn:Nat)(s:ByteArray)(hs:s.size≤1000000)(w:World)(hB:w.heap[Bn]?=some (.cells #[.string s] 9 (0,0))) :
 SeqStopsK Fence.wide n prog 214 #[.pointer (some ⟨Bn,0,none⟩)] (fun x:Pt=>#[Value.string x.1]) (uU Bn) (fun ys=>ys=(dO s 0 0).map iJ) (fun pre=>pre <+: (dO s 0 0).map iJ) (dO s 0 0).length w:=fun l J Jx W hW _ _ hY h0=>by
 have hlt:Bn<w.heap.size:=by
  rcases Nat.lt_or_ge Bn w.heap.size with h|h
  ·exact h
  ·rw[Array.getElem?_eq_none h] at hB;cases hB
 have hBW:W.heap[Bn]?=some (.cells #[.string s] 9 (0,0)):=(hW.block Bn hlt).trans hB;have hcW:W.cell? ⟨Bn,0,none⟩=some (.string s):=cell_of_row W Bn 0 _ _ _ hBW;have HA:Hid (dO s 0 0=dO s 0 0):=aen rfl;generalize hall:dO s 0 0=all at *;have Je:=aen hall;clear hall HA;refine callsIn_of_wp Tryz.func214 rfl trivial ?_ rfl;simp only[Tryz.ntmps214,List.size_toArray,aeC,List.length_nil,Nat.reduceAdd,Nat.reduceSub,Array.replicate_succ,Array.replicate_zero,List.push_toArray,List.append_toArray,List.nil_append,List.cons_append];gi_wp2;gi_loopw [3,7] (fun v3 v7 wr=>∃(a i:Nat) (done:List (List UInt8)),v3=.int .i64 a∧v7=.int .i64 i∧a≤i∧i≤s.size∧wr.heap[Bn]?=some (.cells #[.string s] 9 (0,0))∧Hid (done++dO s a i=all)∧J (done.map iJ) wr)
  (fun _ v7 _=>s.size - (intOf v7).toNat)
 case atStart=>exact⟨0,0,[],rfl,rfl,by omega,by omega,hBW,Je,h0⟩
 case round=>
  clear hcW hBW h0;obtain⟨a,i,done,rfl,rfl,hai,hi,hBr,lM,hJs⟩:=hrel;have hc:wr.cell? ⟨Bn,0,none⟩=some (.string s):=cell_of_row wr Bn 0 _ _ _ hBr;by_cases hlt2:i<s.size
  ·have HS:=aen fun W=>callsIn_wide (n:=n - 1).2 (OG s i W hs hlt2);cases hsb:fK s i
   ·rw[hsb] at HS;have HN:Hid (done++dO s a (i+1)=all):=aen (by rw[←Ou s a i hai hlt2 hsb];exact lM.out);clear hsb;gi_wp2_with fail;refine⟨trivial,?_⟩;with_reducible refine(HS.out _).mono ?_
    rintro e w0 ⟨rfl,rfl⟩;gi_wp2_with fail;go_roundw;case rel=>exact⟨a,i+1,done,rfl,by go_num,by omega,by omega,hBr,HN,hJs⟩
    case measure=>simp[intOf];omega
   ·rw[hsb] at HS;have HN:Hid (done++[sub s a i]++dO s (i+1) (i+1)=all):=aen (by rw[←lM.out,Ot s a i hlt2 hsb];simp);clear hsb;have ex:=OI s a i hs;obtain⟨fn,tmps,assign,body,hy,hR⟩:=hY (done.map iJ) (iJ (sub s a i)) wr hJs (by rw[←HN.out];simp);rw[ex] at hy;gi_wp2_with fail;refine⟨trivial,?_⟩;with_reducible refine(HS.out _).mono ?_
    rintro e w0 ⟨rfl,rfl⟩;gi_wp2_with fail;refine hR.mono ?_;rintro e W3 (⟨rfl,hJ3,hk3⟩|⟨rfl,hJx3⟩)
    ·have hB3:W3.heap[Bn]?=some (.cells #[.string s] 9 (0,0)):=hk3.trans hBr;gi_wp2_with fail;go_roundw;case rel=>exact⟨i+1,i+1,done++[sub s a i],by go_num,by go_num,by omega,by omega,hB3,HN,by rw[List.map_append];exact hJ3⟩
     case measure=>simp[intOf];omega
    ·gi_wp2_with fail;refine bodyPost_ret (results_none rfl _ _ _) rfl ?_;exact⟨⟨_,rfl⟩,.inr ⟨_,⟨(dO s (i+1) (i+1)).map iJ,by rw[←HN.out];simp⟩,hJx3⟩⟩
  ·obtain rfl:i=s.size:=by omega
   have HN:Hid (done++[sub s a s.size]=all):=aen (by rw[←lM.out,Ov s a s.size (aeo _)]);have ex:=OI s a s.size hs;obtain⟨fn,tmps,assign,body,hy,hR⟩:=hY (done.map iJ) (iJ (sub s a s.size)) wr hJs (by rw[←HN.out];simp);rw[ex] at hy;gi_wp2_with fail;refine hR.mono ?_;rintro e W3 (⟨rfl,hJ3,hk3⟩|⟨rfl,hJx3⟩)
   ·gi_wp2_with fail;go_end0;exact⟨⟨_,rfl⟩,.inl ⟨_,by rw[←HN.out];simp,hJ3⟩⟩
   ·gi_wp2_with fail;go_end0;exact⟨⟨_,rfl⟩,.inr ⟨_,⟨[],by rw[←HN.out];simp⟩,hJx3⟩⟩
end
def BK:Op→Bool
 | .defer _=>true
 |_=>false
theorem V5{o:Op}(h:BK o=false):∀c,o≠.defer c:=by
 rintro c rfl;cases h
theorem V6{P:Program}{o:Oper}{a:Act}{w:World}{K:Act→World→Prop}{Q:Exit→Act→World→Prop}{l n:Nat}(hd:BK o.op=false)(h:o.wp P a w K Q):o.wpIn (Fence.wide.inRound l) n P a w K Q:=by
 unfold Oper.wpIn;unfold Oper.wp at h;refine⟨fun _ _=>trivial,?_⟩;rw[show (Fence.wide.inRound l).round=some l from rfl,Oper.semAt_some l _ _ (V5 hd)];generalize (execOp a.eval o).run P w=r at *;cases r with
 |ok x w'=>
  cases x with
  |value v=>exact h
  |skip=>exact h
  |defer d=>exact h
  |enter f args=>exact⟨fun hh=>(by cases hh),CallsIn.inRound l (callsIn_wide.2 h)⟩
  |row r args=>exact⟨fun hh=>(by cases hh),fun c cs _=>let ⟨v,w',hr,hs⟩:=h c cs;⟨v,w',hr,stepsIn_wide.2 hs⟩⟩
  |_=>exact h.elim
 |halt x w'=>cases x <;> first|exact h|exact h.elim
theorem BM{P:Program}{ops:Array Oper}{Q:Exit→Act→World→Prop}{md:Region.Mode}{l n:Nat}(hd:∀(i:Nat) (o:Oper),ops[i]?=some o→BK o.op=false)(hlo:LetsOut Q→False) :
 ∀(fuel:Nat) (listed:Array Bool) (a:Act) (w:World),wpAny P md ops Q fuel listed a w→wpAnyIn (Fence.wide.inRound l) n P md ops Q fuel listed a w
 |0,_,_,_,h=>h
 |fuel+1,listed,a,w,h=>by
  refine⟨h.1,fun i hi=>?_⟩;have h1:=h.2 i hi;unfold wpOp at h1;unfold wpOpIn;cases ho:ops[i]? with
  |none=>
   rw[ho] at h1;exact BM hd hlo fuel _ _ _ h1
  |some o=>
   rw[ho] at h1;simp only at h1 ⊢;split
   ·rename_i hw;rw[if_pos hw] at h1;rcases h1 with h1|h1
    ·exact Oper.wpIn_mono (fun a w h2=>BM hd hlo fuel _ a w h2) (V6 (hd i o ho) h1)
    ·exact(hlo h1.2).elim
   ·rename_i hw;rw[if_neg hw] at h1;exact⟨fun _ _=>trivial,BM hd hlo fuel _ _ _ h1⟩
theorem V7{P:Program}{ops:List Oper}{Q:Exit→Act→World→Prop}{S:World→Prop}{id l n:Nat}{a:Act}{w:World}(hm:P.follows .mixedOrders=true)(hd:(ops.all fun o=>!BK o.op)=true)(hlo:LetsOut Q→False)(hS:S w.drew)
 (h:S w.drew→wpAnyH P .any ops.toArray Q S ops.length (Array.replicate ops.length false) a w.drew):(Code.region id ops.toArray true).wpIn (Fence.wide.inRound l) n P Q a w:=by
 refine wpIn_region_any hm ?_;refine BM (fun i o ho=>?_) hlo _ _ _ _ (wpAny_of_held _ _ _ _ (h hS));have hm2:o∈ops:=by
  have:=List.mem_of_getElem? (l:=ops) (i:=i) (by simpa using ho);exact this
 have:=List.all_eq_true.1 hd o hm2;simpa using this
theorem wI{W W':World}(h:Below W.heap.size W W'):KeepsOthers W W':=
 ⟨h.size,fun k o hk _=>(h.block k (Array.getElem?_eq_some_iff.1 hk).1).trans hk⟩
theorem own_base{W:World}{b b':Nat}{e:TypeId}{size:Nat}{v:Value}{k:Nat}{xs:List Value}(h:W.ownsRow b e size v k xs)(hb:b'≤b):W.ownsRow b' e size v k xs:=by
 refine⟨h.1,?_⟩;rcases h.2 with ⟨rfl,h0⟩|⟨g,cap,cur,rfl,hg,rest⟩
 ·exact .inl ⟨rfl,h0⟩
 ·exact .inr ⟨g,cap,cur,rfl,aev hb hg,rest⟩
theorem wJ{W:World}{b:Nat}{e:TypeId}{size:Nat}{v:Value}{k:Nat}{xs:List Value}(h:W.ownsRow b e size v k xs){g:Nat}(hg:g<b):some g≠v.ownBlock:=by
 rcases h.2 with ⟨rfl,h0⟩|⟨g',cap,cur,rfl,hg',rest⟩
 ·simp[Value.ownBlock]
 ·intro e';have:g=g':=by simpa [Value.ownBlock] using e'
  omega
theorem EV{W w1:World}{B:Nat}{t t2 e:TypeId}{size:Nat}{v v' c:Value}{k m:Nat}{xs ys:List Value}{tmp:Obj}
 (hv:Boxed W B t v) (hs:Boxed W (B+1) t2 c) (hrow:W.ownsRow (B+2) e size v k xs)
 (hown':w1.ownsRow (B+2) e size v' m ys) (hgrow:(W.alloc tmp).grownBy w1 v.ownBlock) :
 Boxed w1 B t v∧Boxed (w1.setCell ⟨B,0,none⟩ v') B t v'∧Boxed (w1.setCell ⟨B,0,none⟩ v') (B+1) t2 c∧(w1.setCell ⟨B,0,none⟩ v').ownsRow (B+2) e size v' m ys∧KeepsOthers W (w1.setCell ⟨B,0,none⟩ v')∧Below B W (w1.setCell ⟨B,0,none⟩ v'):=by
 have hlt:=hs.lt;have hv1:Boxed w1 B t v:=(hv.alloc tmp).kept hgrow (wJ hrow (by omega));have hs1:Boxed w1 (B+1) t2 c:=(hs.alloc tmp).kept hgrow (wJ hrow (by omega));refine⟨hv1,hv1.set v',hs1.kept (grownBy_setCell' w1 B v') (by simp),hown'.kept (grownBy_setCell' w1 B v') (.inr (wJ hown' (by omega)).symm),?_,?_⟩
 ·refine((KeepsOthers.alloc W tmp).trans (KeepsOthers.of_grownBy hgrow fun j o ej hj=>?_)).trans (aet _ _ _);rcases (hrow.alloc tmp).2 with ⟨rfl,_⟩|⟨g,cap,cur,rfl,_,hgb,_⟩
  ·simp[Value.ownBlock] at ej
  ·obtain rfl:g=j:=by simpa [Value.ownBlock] using ej
   rw[hgb] at hj;cases hj;rfl
 ·refine(((aer B W).alloc (by omega) tmp).grown hgrow (by simp;omega) fun j ej=>?_).setCell (p:=⟨B,0,none⟩) (aeo _) v';have:=wJ hrow (g:=j);rcases Nat.lt_or_ge j B with h|h
  ·exact absurd ej.symm (this (by omega))
  ·exact h
theorem V8{P:Program}{ops:List Oper}{Q:Exit→Act→World→Prop}{id l n:Nat}{a:Act}{w:World}(hm:P.follows .mixedOrders=true)(hd:(ops.all fun o=>!BK o.op)=true)(hlo:LetsOut Q→False)
 (h:wpAny P .any ops.toArray Q ops.length (Array.replicate ops.length false) a w.drew):(Code.region id ops.toArray true).wpIn (Fence.wide.inRound l) n P Q a w:=by
 refine wpIn_region_any hm ?_;refine BM (fun i o ho=>?_) hlo _ _ _ _ h;have hm2:o∈ops:=List.mem_of_getElem? (l:=ops) (i:=i) (by simpa using ho);have:=List.all_eq_true.1 hd o hm2;simpa using this
def letterN(b:Nat):Bool:=(decide (97≤b)&&decide (b≤122))||(decide (65≤b)&&decide (b≤90))
def bf(b:Nat):Bool:=letterN b||(decide (48≤b)&&decide (b≤57))||b==45||b==95||b==46||b==58
def gX(s:ByteArray):Nat→Nat→Nat
 |0,i=>i
 |f+1,i=>if i<s.size∧bf (bt s i)=true then gX s f (i+1) else i
def wordAt(s:ByteArray)(i:Nat):Nat:=gX s (s.size - i) i
theorem OL(s:ByteArray)(f i:Nat)(h:i<s.size)(hp:bf (bt s i)=true)(hf:s.size - i≤f):gX s f i=gX s (f - 1) (i+1):=by
 obtain⟨g,rfl⟩:∃g,f=g+1:=⟨f - 1,by omega⟩;simp[gX,h,hp]
theorem zU(s:ByteArray)(f i:Nat)(h:¬(i<s.size∧bf (bt s i)=true)):gX s f i=i:=by
 cases f with
 |zero=>rfl
 |succ f=>simp only[gX];rw[if_neg h]
theorem pZ(s:ByteArray):∀f i,i≤gX s f i∧(i≤s.size→gX s f i≤s.size)
 |0,i=>⟨aeo _,fun h=>h⟩
 |f+1,i=>by
  unfold gX;split
  ·rename_i h;have:=pZ s f (i+1);exact⟨by omega,fun _=>this.2 (by omega)⟩
  ·exact⟨aeo _,fun h=>h⟩
def nameB(s:ByteArray):Bool:=decide (1≤s.size)&&decide (s.size≤60)&&letterN (bt s 0)&&(wordAt s 0==s.size)
theorem OM(b:Nat)(hb:b<256)(w:World):Calls prog 96 #[.int .u8 b] w fun e w'=>e=.returned (.bool (letterN b))∧w=w':=by
 have H:Hid (letterN b=((decide (97≤b)&&decide (b≤122))||(decide (65≤b)&&decide (b≤90)))):=aen rfl;generalize letterN b=r at *;by_cases h1:97≤b
 ·by_cases h2:b≤122;all_goals
   go_enter Tryz.func96,Tryz.ntmps96;go_wp2;go_ret;exact⟨aJ (by rw[H.out];first|rfl|(rw[Bool.eq_iff_iff];simp;omega)),rfl⟩
 ·by_cases h2:65≤b;all_goals
   go_enter Tryz.func96,Tryz.ntmps96;go_wp2;go_ret;exact⟨aJ (by rw[H.out];first|rfl|(rw[Bool.eq_iff_iff];simp;omega)),rfl⟩
theorem OO(b:Nat)(hb:b<256)(w:World):Calls prog 221 #[.int .u8 b] w fun e w'=>e=.returned (.bool (letterN b))∧w=w':=by
 have H:Hid (letterN b=((decide (97≤b)&&decide (b≤122))||(decide (65≤b)&&decide (b≤90)))):=aen rfl;generalize letterN b=r at *;by_cases h1:97≤b
 ·by_cases h2:b≤122;all_goals
   go_enter Tryz.func221,Tryz.ntmps221;go_wp2;go_ret;exact⟨aJ (by rw[H.out];first|rfl|(rw[Bool.eq_iff_iff];simp;omega)),rfl⟩
 ·by_cases h2:65≤b;all_goals
   go_enter Tryz.func221,Tryz.ntmps221;go_wp2;go_ret;exact⟨aJ (by rw[H.out];first|rfl|(rw[Bool.eq_iff_iff];simp;omega)),rfl⟩
theorem V9(b:Nat)(hb:b<256)(w:World):Calls prog 156 #[.int .u8 b] w fun e w'=>e=.returned (.bool (bf b))∧w=w':=by
 have H:Hid (bf b=(letterN b||(decide (48≤b)&&decide (b≤57))||b==45||b==95||b==46||b==58)):=aen rfl;have HL:=aen (OM b hb);generalize bf b=r at *;generalize letterN b=l at *;by_cases c1:b=45
 ·subst c1;go_enter Tryz.func156,Tryz.ntmps156;go_wp2_with fail;go_ret;exact⟨aJ (by rw[H.out];simp),rfl⟩
 have z1:((b:Int)==45)=false:=by simp;omega
 by_cases c2:b=95
 ·subst c2;go_enter Tryz.func156,Tryz.ntmps156;go_wp2_with fail;go_ret;exact⟨aJ (by rw[H.out];simp),rfl⟩
 have z2:((b:Int)==95)=false:=by simp;omega
 by_cases c3:b=46
 ·subst c3;go_enter Tryz.func156,Tryz.ntmps156;go_wp2_with fail;go_ret;exact⟨aJ (by rw[H.out];simp),rfl⟩
 have z3:((b:Int)==46)=false:=by simp;omega
 by_cases c4:b=58
 ·subst c4;go_enter Tryz.func156,Tryz.ntmps156;go_wp2_with fail;go_ret;exact⟨aJ (by rw[H.out];simp),rfl⟩
 have z4:((b:Int)==58)=false:=by simp;omega
 have H2:Hid (r=(l||(decide (48≤b)&&decide (b≤57)))):=aen (by
  have b1:(b==45)=false:=by simpa using c1
  have b2:(b==95)=false:=by simpa using c2
  have b3:(b==46)=false:=by simpa using c3
  have b4:(b==58)=false:=by simpa using c4
  rw[H.out,b1,b2,b3,b4];simp only[Bool.or_false])
 clear c1 c2 c3 c4;cases l
 ·by_cases h1:48≤b;all_goals
   go_enter Tryz.func156,Tryz.ntmps156;go_wp2_with fail;refine(HL.out _).mono ?_;rintro e w1 ⟨rfl,rfl⟩;go_wp2;go_ret;exact⟨aJ (by rw[H2.out];first|rfl|(simp[show ¬48≤b by omega];done)|(rw[Bool.eq_iff_iff,Bool.or_eq_true,Bool.and_eq_true];simp only[decide_eq_true_eq,Bool.false_eq_true,false_or];omega)),rfl⟩
 ·go_enter Tryz.func156,Tryz.ntmps156;go_wp2_with fail;refine(HL.out _).mono ?_;rintro e w1 ⟨rfl,rfl⟩;go_wp2;go_ret;exact⟨aJ (by rw[H2.out];rfl),rfl⟩
theorem We(b:Nat)(hb:b<256)(w:World):Calls prog 247 #[.int .u8 b] w fun e w'=>e=.returned (.bool (bf b))∧w=w':=by
 have H:Hid (bf b=(letterN b||(decide (48≤b)&&decide (b≤57))||b==45||b==95||b==46||b==58)):=aen rfl;have HL:=aen (OO b hb);generalize bf b=r at *;generalize letterN b=l at *;cases l
 ·by_cases h1:48≤b∧b≤57
  ·obtain⟨h1,h2⟩:=h1;go_enter Tryz.func247,Tryz.ntmps247;go_wp2_with fail;refine(HL.out _).mono ?_;rintro e w1 ⟨rfl,rfl⟩;go_wp2;go_ret;exact⟨aJ (by rw[H.out];simp[h1,h2]),rfl⟩
  ·have H2:Hid (r=(b==45||b==95||b==46||b==58)):=aen (by rw[H.out];have:(decide (48≤b)&&decide (b≤57))=false:=(by simp;omega);rw[this];simp);have d:(b<48∨(48≤b∧57<b)):=by omega
   clear h1;rcases d with d|⟨d0,d⟩;all_goals
    by_cases c1:b=45
    ·subst c1;go_enter Tryz.func247,Tryz.ntmps247;go_wp2_with fail;refine(HL.out _).mono ?_;rintro e w1 ⟨rfl,rfl⟩;go_wp2;go_ret;exact⟨aJ (by rw[H2.out];rfl),rfl⟩
    have z1:((b:Int)==45)=false:=by simp;omega
    by_cases c2:b=95
    ·subst c2;go_enter Tryz.func247,Tryz.ntmps247;go_wp2_with fail;refine(HL.out _).mono ?_;rintro e w1 ⟨rfl,rfl⟩;go_wp2;go_ret;exact⟨aJ (by rw[H2.out];rfl),rfl⟩
    have z2:((b:Int)==95)=false:=by simp;omega
    by_cases c3:b=46
    ·subst c3;go_enter Tryz.func247,Tryz.ntmps247;go_wp2_with fail;refine(HL.out _).mono ?_;rintro e w1 ⟨rfl,rfl⟩;go_wp2;go_ret;exact⟨aJ (by rw[H2.out];rfl),rfl⟩
    have z3:((b:Int)==46)=false:=by simp;omega
    by_cases c4:b=58
    ·subst c4;go_enter Tryz.func247,Tryz.ntmps247;go_wp2_with fail;refine(HL.out _).mono ?_;rintro e w1 ⟨rfl,rfl⟩;go_wp2;go_ret;exact⟨aJ (by rw[H2.out];rfl),rfl⟩
    have z4:((b:Int)==58)=false:=by simp;omega
    have H3:Hid (r=false):=aen (by rw[H2.out];simp[c1,c2,c3,c4]);clear c1 c2 c3 c4;go_enter Tryz.func247,Tryz.ntmps247;go_wp2_with fail;refine(HL.out _).mono ?_;rintro e w1 ⟨rfl,rfl⟩;go_wp2;go_ret;exact⟨aJ (by rw[H3.out] <;> first|rfl|(simp;omega)),rfl⟩
 ·go_enter Tryz.func247,Tryz.ntmps247;go_wp2_with fail;refine(HL.out _).mono ?_;rintro e w1 ⟨rfl,rfl⟩;go_wp2;go_ret;exact⟨aJ (by rw[H.out];rfl),rfl⟩
theorem BN(s:ByteArray)(i:Nat)(w:World)(hs:s.size<9223372036854775807):Calls prog 97 #[.string s,.int .i64 i] w fun e w'=>e=.returned (.int .i64 (wordAt s i))∧w=w':=by
 have HW:Hid (gX s (s.size - i) i=wordAt s i):=aen rfl;generalize wordAt s i=R at *;go_enter Tryz.func97,Tryz.ntmps97;go_wp2;go_loop [1] (fun v=>∃k f:Nat,v=.int .i64 k∧gX s f k=R∧s.size - k≤f) (fun v=>s.size - (intOf v).toNat);case atStart=>exact⟨i,s.size - i,rfl,HW.out,aeo _⟩
 case round=>
  obtain⟨k,f,rfl,hR,hf⟩:=hrel;have HR:=aen hR;clear hR;by_cases hk:k<s.size
  ·have hb:=aK s k;have hbt:=aen (get_bt s k hk);have hst:=aen (OL s f k hk);have hsp:=aen (zU s f k);have HP:Hid (∀W,Calls prog 156 #[.int .u8 s[k].toNat] W fun e w'=>e=.returned (.bool (bf (bt s k)))∧W=w'):=aen fun W=>by rw[get_bt s k hk];exact V9 _ hb W
   generalize bf (bt s k)=p at *;cases p
   ·go_wp2_with fail;refine(HP.out _).mono ?_;rintro e w1 ⟨rfl,rfl⟩;go_wp2;go_ret;exact⟨iy (by rw[←HR.out,hsp.out (by simp)]),rfl⟩
   ·go_wp2_with fail;refine(HP.out _).mono ?_;rintro e w1 ⟨rfl,rfl⟩;go_wp2;go_round;case rel=>exact⟨k+1,f - 1,by go_num,by rw[←HR.out,hst.out (by first|rfl|trivial) hf],by omega⟩
    case measure=>simp[intOf];omega
  ·have hsp:=aen (zU s f k (by omega));go_wp2;go_ret;exact⟨iy (by rw[←HR.out,hsp.out]),rfl⟩
theorem BO(s:ByteArray)(i:Nat)(w:World)(hs:s.size<9223372036854775807):Calls prog 222 #[.string s,.int .i64 i] w fun e w'=>e=.returned (.int .i64 (wordAt s i))∧w=w':=by
 have HW:Hid (gX s (s.size - i) i=wordAt s i):=aen rfl;generalize wordAt s i=R at *;go_enter Tryz.func222,Tryz.ntmps222;go_wp2;go_loop [1] (fun v=>∃k f:Nat,v=.int .i64 k∧gX s f k=R∧s.size - k≤f) (fun v=>s.size - (intOf v).toNat);case atStart=>exact⟨i,s.size - i,rfl,HW.out,aeo _⟩
 case round=>
  obtain⟨k,f,rfl,hR,hf⟩:=hrel;have HR:=aen hR;clear hR;by_cases hk:k<s.size
  ·have hb:=aK s k;have hst:=aen (OL s f k hk);have hsp:=aen (zU s f k);have HP:Hid (∀W,Calls prog 247 #[.int .u8 s[k].toNat] W fun e w'=>e=.returned (.bool (bf (bt s k)))∧W=w'):=aen fun W=>by rw[get_bt s k hk];exact We _ hb W
   generalize bf (bt s k)=p at *;cases p
   ·go_wp2_with fail;refine(HP.out _).mono ?_;rintro e w1 ⟨rfl,rfl⟩;go_wp2;go_ret;exact⟨iy (by rw[←HR.out,hsp.out (by simp)]),rfl⟩
   ·go_wp2_with fail;refine(HP.out _).mono ?_;rintro e w1 ⟨rfl,rfl⟩;go_wp2;go_round;case rel=>exact⟨k+1,f - 1,by go_num,by rw[←HR.out,hst.out (by first|rfl|trivial) hf],by omega⟩
    case measure=>simp[intOf];omega
  ·have hsp:=aen (zU s f k (by omega));go_wp2;go_ret;exact⟨iy (by rw[←HR.out,hsp.out]),rfl⟩
theorem name_any(s:ByteArray)(w:World)(hs:s.size<9223372036854775807):Calls prog 51 #[.string s] w fun e w'=>e=.returned (.bool (nameB s))∧w=w':=by
 have H:Hid (nameB s=(decide (1≤s.size)&&decide (s.size≤60)&&letterN (bt s 0)&&(wordAt s 0==s.size))):=aen rfl;have HW:=aen (BN s 0);generalize nameB s=R at *;by_cases h0:s.size=0
 ·have z0:((s.size:Int)==0)=true:=by rw[h0];rfl
  have hR:Hid (R=false):=aen (by rw[H.out,h0];rfl);clear h0;go_enter Tryz.func51,Tryz.ntmps51;go_wp2_with fail;go_ret;exact⟨aJ hR.out.symm,rfl⟩
 have hp:0<s.size:=by omega
 have z0:((s.size:Int)==0)=false:=by rw[aes];omega
 clear h0;by_cases h1:60<s.size
 ·have hR:Hid (R=false):=aen (by rw[H.out,show decide (s.size≤60)=false by simpa using h1];simp);go_enter Tryz.func51,Tryz.ntmps51;go_wp2_with fail;go_ret;exact⟨aJ hR.out.symm,rfl⟩
 have hb:=aK s 0;have HL:Hid (∀W,Calls prog 96 #[.int .u8 s[0].toNat] W fun e w'=>e=.returned (.bool (letterN (bt s 0)))∧W=w'):=aen fun W=>by rw[get_bt s 0 hp];exact OM _ hb W
 have H2:Hid (R=(letterN (bt s 0)&&(wordAt s 0==s.size))):=aen (by rw[H.out];simp[show 1≤s.size by omega,show s.size≤60 by omega]);have d1:decide (60<s.size)=false:=by simpa using h1
 generalize letterN (bt s 0)=l at *;generalize wordAt s 0=e0 at *;cases l
 ·go_enter Tryz.func51,Tryz.ntmps51;go_wp2_with fail;refine(HL.out _).mono ?_;rintro e w1 ⟨rfl,rfl⟩;go_wp2_with fail;go_ret;exact⟨aJ (by rw[H2.out];rfl),rfl⟩
 ·go_enter Tryz.func51,Tryz.ntmps51;go_wp2_with fail;refine(HL.out _).mono ?_;rintro e w1 ⟨rfl,rfl⟩;go_wp2_with fail;refine(HW.out _ hs).mono ?_;rintro e w1 ⟨rfl,rfl⟩;go_wp2;go_ret;exact⟨aJ (by rw[H2.out,Bool.eq_iff_iff];simp;try omega),rfl⟩
theorem zV(s:ByteArray)(w:World)(hs:s.size<9223372036854775807):Calls prog 182 #[.string s] w fun e w'=>e=.returned (.bool (nameB s))∧w=w':=by
 have H:Hid (nameB s=(decide (1≤s.size)&&decide (s.size≤60)&&letterN (bt s 0)&&(wordAt s 0==s.size))):=aen rfl;have HW:=aen (BO s 0);generalize nameB s=R at *;by_cases h0:s.size=0
 ·have z0:decide (1≤s.size)=false:=aep (by omega);have z1:s.size<1:=by omega
  have hR:Hid (R=false):=aen (by rw[H.out,h0];rfl);clear h0;go_enter Tryz.func182,Tryz.ntmps182;go_wp2_with fail;go_ret;exact⟨aJ hR.out.symm,rfl⟩
 have hp:0<s.size:=by omega
 have hp1:1≤s.size:=by omega
 clear h0;by_cases h1:60<s.size
 ·have hR:Hid (R=false):=aen (by rw[H.out,show decide (s.size≤60)=false by simpa using h1];simp);have d1:decide (s.size≤60)=false:=by simpa using h1
  go_enter Tryz.func182,Tryz.ntmps182;go_wp2_with fail;go_ret;exact⟨aJ hR.out.symm,rfl⟩
 have hb:=aK s 0;have HL:Hid (∀W,Calls prog 221 #[.int .u8 s[0].toNat] W fun e w'=>e=.returned (.bool (letterN (bt s 0)))∧W=w'):=aen fun W=>by rw[get_bt s 0 hp];exact OO _ hb W
 have H2:Hid (R=(letterN (bt s 0)&&(wordAt s 0==s.size))):=aen (by rw[H.out];simp[show 1≤s.size by omega,show s.size≤60 by omega]);have d1:s.size≤60:=by omega
 generalize letterN (bt s 0)=l at *;generalize wordAt s 0=e0 at *;cases l
 ·go_enter Tryz.func182,Tryz.ntmps182;go_wp2_with fail;refine(HL.out _).mono ?_;rintro e w1 ⟨rfl,rfl⟩;go_wp2_with fail;go_ret;exact⟨aJ (by rw[H2.out];rfl),rfl⟩
 ·go_enter Tryz.func182,Tryz.ntmps182;go_wp2_with fail;refine(HL.out _).mono ?_;rintro e w1 ⟨rfl,rfl⟩;go_wp2_with fail;refine(HW.out _ hs).mono ?_;rintro e w1 ⟨rfl,rfl⟩;go_wp2;go_ret;exact⟨aJ (by rw[H2.out,Bool.eq_iff_iff];simp;try omega),rfl⟩
end Go.Proofs.YtpoafhgbhnblmaaGreatDoor
