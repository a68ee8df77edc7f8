import Derived.Lib.DecodeN
import Derived.Lib.RuneBytes
import Derived.Lib.RuneCount
import Derived.WalkKit
import Derived.Lib.Strings
import Derived.Lib.SlicesS
import Derived.RangeFuncOwn
import Derived.Lib.Hide
set_option linter.unusedVariables false
set_option linter.unusedSimpArgs false
set_option linter.defProp false
set_option maxRecDepth 100000
set_option maxHeartbeats 20000000
namespace Go.Proofs.YtpoafhgbhnblmaaGreatDoor
open Go.RowKit
def aen:=@Lib.hid
def aeo:=@Nat.le_refl
def aep:=@decide_eq_false
def aeq:=@decide_eq_true
def aer:=@Below.refl
def aes:=@beq_eq_false_iff_ne
def aet:=@KeepsOthers.setCell
def aeu:=@KeepsOthers.refl
def aev:=@Nat.le_trans
def aew:=@Array.getD_eq_getD_getElem?
def aex:=@ByteArray.size_extract
def aey:=@List.length_append
def aez:=@World.grownBy_alloc
def aeA:=@Nat.lt_of_lt_of_le
def aeB:=@bne_iff_ne
def aeC:=@List.length_cons
def aeD:=@Nat.le_of_lt
def bt(s:ByteArray)(k:Nat):Nat:=(s.get! k).toNat
theorem aK(s:ByteArray)(k:Nat):bt s k<256:=(s.get! k).toNat_lt
theorem get_bt(s:ByteArray)(k:Nat)(h:k<s.size):(s[k]).toNat=bt s k:=by
 unfold bt;have:s.get! k=s[k]:=by
  show s.data[k]! = s.data[k];exact getElem!_pos s.data k h
 rw[this]
def wd(b:Nat):Nat:=if b<128 then 1 else if 194≤b∧b≤223 then 2 else if 224≤b∧b≤239 then 3 else if 240≤b∧b≤244 then 4 else 0
def lo(b:Nat):Nat:=if b=224 then 160 else if b=240 then 144 else 128
def kR(b:Nat):Nat:=if b=237 then 159 else if b=244 then 143 else 191
def acc(s:ByteArray)(i m:Nat):Nat→Nat
 |0=>bt s i % m
 |j+1=>acc s i m j * 64+bt s (i+1+j) % 64
def Bl(s:ByteArray)(i j:Nat):Prop:=∀k,k<j→128≤bt s (i+1+k)∧bt s (i+1+k)≤191
theorem Ip(s:ByteArray)(i m j:Nat)(hm:0<m)(hm':m≤32)(hj:j≤3):acc s i m j<8388608:=by
 have h0:=Nat.mod_lt (bt s i) hm;have h1:=Nat.mod_lt (bt s (i+1+0)) (show 64 > 0 by decide);have h2:=Nat.mod_lt (bt s (i+1+1)) (show 64 > 0 by decide);have h3:=Nat.mod_lt (bt s (i+1+2)) (show 64 > 0 by decide);match j,hj with
 |0,_=>simp only[acc];omega
 |1,_=>simp only[acc];omega
 |2,_=>simp only[acc];omega
 |3,_=>simp only[acc];omega
theorem Ny(s:ByteArray)(i:Nat)(h:wd (bt s i)=0):Utf8.decode s i=(65533,1):=by
 have hb:=aK s i;rw[Lib.decode_at];show Lib.decodeN _ (bt s i) (bt s (i+1)) (bt s (i+2)) (bt s (i+3))=_;unfold wd at h;unfold Lib.decodeN;have h1:=aK s (i+1)
 repeat' split at h
 all_goals first|omega|(repeat' split) <;> first|rfl|omega
theorem Nz(s:ByteArray)(i:Nat)(h:bt s i<128):Utf8.decode s i=(bt s i,1):=by
 rw[Lib.decode_at];show Lib.decodeN _ (bt s i) (bt s (i+1)) (bt s (i+2)) (bt s (i+3))=_;unfold Lib.decodeN;rw[if_pos h]
theorem U7(s:ByteArray)(i:Nat)(hi:i<s.size)(h2:2≤wd (bt s i))(h:s.size - i<wd (bt s i)):Utf8.decode s i=(65533,1):=by
 rw[Lib.decode_at];show Lib.decodeN _ (bt s i) (bt s (i+1)) (bt s (i+2)) (bt s (i+3))=_;unfold wd at h h2;unfold Lib.decodeN
 repeat' split at h
 all_goals first|omega|(repeat' split) <;> first|rfl|omega
theorem U8(s:ByteArray)(i:Nat)(h2:2≤wd (bt s i))(h:bt s (i+1)<lo (bt s i)∨kR (bt s i)<bt s (i+1)):Utf8.decode s i=(65533,1):=by
 rw[Lib.decode_at];show Lib.decodeN _ (bt s i) (bt s (i+1)) (bt s (i+2)) (bt s (i+3))=_;have h1:=aK s (i+1);generalize bt s i=b0 at *;generalize bt s (i+1)=b1 at *;generalize bt s (i+2)=b2 at *;generalize bt s (i+3)=b3 at *;unfold wd at h2;unfold lo kR at h;unfold Lib.decodeN
 repeat' split at h2
 all_goals first|omega|(repeat' split at h) <;> first|omega|(repeat' split) <;> first|rfl|omega
theorem U9(s:ByteArray)(i j:Nat)(hj:j+1<wd (bt s i))(h:bt s (i+1+j)<128∨191<bt s (i+1+j)):Utf8.decode s i=(65533,1):=by
 rw[Lib.decode_at];show Lib.decodeN _ (bt s i) (bt s (i+1)) (bt s (i+2)) (bt s (i+3))=_;have g1:=aK s (i+1);have g2:=aK s (i+2);have g3:=aK s (i+3);have hj3:j<3:=by unfold wd at hj;(repeat' split at hj) <;> omega
 match j,hj3,hj,h with
 |0,_,hj,h=>
  have h':bt s (i+1)<128∨191<bt s (i+1):=h;unfold wd at hj;unfold Lib.decodeN
  repeat' split at hj
  all_goals first|omega|(repeat' split) <;> first|rfl|omega
 |1,_,hj,h=>
  have h':bt s (i+2)<128∨191<bt s (i+2):=h;unfold wd at hj;unfold Lib.decodeN
  repeat' split at hj
  all_goals first|omega|(repeat' split) <;> first|rfl|omega
 |2,_,hj,h=>
  have h':bt s (i+3)<128∨191<bt s (i+3):=h;unfold wd at hj;unfold Lib.decodeN
  repeat' split at hj
  all_goals first|omega|(repeat' split) <;> first|rfl|omega
theorem Va(s:ByteArray)(i sz:Nat)(hi:i<s.size)(hw:wd (bt s i)=sz)(h2:2≤sz)(hn:sz≤s.size - i)(hl:lo (bt s i)≤bt s (i+1))(hh:bt s (i+1)≤kR (bt s i))(hc:Bl s i (sz - 1)) :
 Utf8.decode s i=(acc s i (2 ^ (7 - sz)) (sz - 1),sz):=by
 rw[Lib.decode_at];show Lib.decodeN _ (bt s i) (bt s (i+1)) (bt s (i+2)) (bt s (i+3))=_;have hsz:sz=2∨sz=3∨sz=4:=by unfold wd at hw;(repeat' split at hw) <;> omega
 rcases hsz with rfl|rfl|rfl
 ·have c0:=hc 0 (by omega);simp only[acc,Nat.add_zero,show (7 - 2)=5 from rfl,show (2:Nat) ^ 5=32 from rfl] at c0 ⊢;unfold wd at hw;unfold lo at hl;unfold kR at hh;unfold Lib.decodeN
  repeat' split at hw
  all_goals first|omega|(repeat' split at hl) <;> first|omega|(repeat' split at hh) <;> first|omega|(repeat' split) <;> first|rfl|(exfalso;omega)
 ·have c0:=hc 0 (by omega);have c1:=hc 1 (by omega);simp only[acc,Nat.add_zero,show i+1+1=i+2 from rfl,show (7 - 3)=4 from rfl,show (2:Nat) ^ 4=16 from rfl] at c0 c1 ⊢;unfold wd at hw;unfold lo at hl;unfold kR at hh;unfold Lib.decodeN
  repeat' split at hw
  all_goals first|omega|(repeat' split at hl) <;> first|omega|(repeat' split at hh) <;> first|omega|(repeat' split) <;> first|(simp only[Prod.mk.injEq,and_true];omega)|(exfalso;omega)
 ·have c0:=hc 0 (by omega);have c1:=hc 1 (by omega);have c2:=hc 2 (by omega);simp only[acc,Nat.add_zero,show i+1+1=i+2 from rfl,show i+1+2=i+3 from rfl,show (7 - 4)=3 from rfl,show (2:Nat) ^ 3=8 from rfl] at c0 c1 c2 ⊢;unfold wd at hw;unfold lo at hl;unfold kR at hh;unfold Lib.decodeN
  repeat' split at hw
  all_goals first|omega|(repeat' split at hl) <;> first|omega|(repeat' split at hh) <;> first|omega|(repeat' split) <;> first|(simp only[Prod.mk.injEq,and_true];omega)|(exfalso;omega)
def Bo(s:ByteArray)(i:Int):Int × Int:=
 if 0≤i∧i<s.size then (((Utf8.decode s i.toNat).1:Int),((Utf8.decode s i.toNat).2:Int)) else (-1,0)
theorem NC(s:ByteArray)(i:Nat)(h:i<s.size):Bo s i=(((Utf8.decode s i).1:Int),((Utf8.decode s i).2:Int)):=by
 unfold Bo;rw[if_pos ⟨by omega,by omega⟩,Int.toNat_natCast]
theorem Vb(s:ByteArray)(i:Int)(h:¬(0≤i∧i<s.size)):Bo s i=(-1,0):=if_neg h
theorem Bq(s:ByteArray)(i:Nat)(h:i<s.size):1≤(Utf8.decode s i).2∧(Utf8.decode s i).2≤4∧i+(Utf8.decode s i).2≤s.size∧(Utf8.decode s i).1≤1114111:=by
 have hb:=aK s i;have h1:=aK s (i+1);have h2:=aK s (i+2);have h3:=aK s (i+3);rw[Lib.decode_at];show 1≤(Lib.decodeN _ (bt s i) (bt s (i+1)) (bt s (i+2)) (bt s (i+3))).2∧(Lib.decodeN _ (bt s i) (bt s (i+1)) (bt s (i+2)) (bt s (i+3))).2≤4∧i+(Lib.decodeN _ (bt s i) (bt s (i+1)) (bt s (i+2)) (bt s (i+3))).2≤s.size∧(Lib.decodeN _ (bt s i) (bt s (i+1)) (bt s (i+2)) (bt s (i+3))).1≤1114111;unfold Lib.decodeN
 (repeat' split) <;> (simp only[];omega)
def ku(s:ByteArray):Nat→Nat→List (Nat × Nat)
 |0,_=>[]
 |f+1,pos=>if pos<s.size then Utf8.decode s pos :: ku s f (pos+(Utf8.decode s pos).2) else []
def pts(s:ByteArray):List (Nat × Nat):=ku s s.size 0
theorem EF(s:ByteArray)(f pos:Nat)(h:¬pos<s.size):ku s f pos=[]:=by
 cases f <;> simp[ku,h]
theorem EG(s:ByteArray)(f pos:Nat)(h:pos<s.size)(hf:s.size≤pos+f):ku s f pos=Utf8.decode s pos :: ku s (f - 1) (pos+(Utf8.decode s pos).2):=by
 obtain⟨g,rfl⟩:∃g,f=g+1:=⟨f - 1,by omega⟩;simp[ku,h]
theorem ND(s:ByteArray):∀f pos,(ku s f pos).length≤s.size - pos
 |0,_=>by simp[ku]
 |f+1,pos=>by
  unfold ku;split
  ·rename_i h;have:=ND s f (pos+(Utf8.decode s pos).2);have:=Bq s pos h;simp only[aeC];omega
  ·simp
theorem Iq(s:ByteArray):(pts s).length≤s.size:=by have:=ND s s.size 0;unfold pts;omega
def sO(l:List (Nat × Nat)):List Value:=l.flatMap fun p=>[.int .i64 p.1,.int .i64 p.2]
theorem Vd(l m:List (Nat × Nat)):sO (l++m)=sO l++sO m:=by simp[sO,List.flatMap_append]
theorem Ir(l:List (Nat × Nat))(k:Nat)(p:Nat × Nat)(h:l[k]?=some p):(sO l)[k * 2]?=some (.int .i64 p.1)∧(sO l)[k * 2+1]?=some (.int .i64 p.2):=by
 induction l generalizing k with
 |nil=>simp at h
 |cons q l ih=>
  cases k with
  |zero=>simp only[List.getElem?_cons_zero,Option.some.injEq] at h;subst h;exact⟨rfl,rfl⟩
  |succ k=>
   have:=ih k (by simpa using h);have e:sO (q :: l)=.int .i64 q.1 :: .int .i64 q.2 :: sO l:=rfl;rw[e,show (k+1) * 2=k * 2+1+1 from by omega,show k * 2+1+1+1=(k * 2+1)+1+1 from rfl];simpa using this
def bytesL(s:ByteArray):List UInt8:=s.data.toList
def bn(c:Int):List UInt8:=bytesL (Utf8.encode c)
def uM(c:Nat):ByteArray:=
 if c<0x80 then ⟨#[UInt8.ofNat c]⟩
 else if c<0x800 then ⟨#[UInt8.ofNat (0xC0+c / 64),UInt8.ofNat (0x80+c % 64)]⟩
 else if c<0x10000 then ⟨#[UInt8.ofNat (0xE0+c / 4096),UInt8.ofNat (0x80+c / 64 % 64),UInt8.ofNat (0x80+c % 64)]⟩
 else ⟨#[UInt8.ofNat (0xF0+c / 262144),UInt8.ofNat (0x80+c / 4096 % 64),UInt8.ofNat (0x80+c / 64 % 64),UInt8.ofNat (0x80+c % 64)]⟩
theorem Iu(r:Int):Utf8.encode r=uM (if Utf8.valid r=true then r.toNat else Utf8.runeError):=rfl
theorem NF(n:Nat)(h:Utf8.valid (n:Int)=true):Utf8.encode (n:Int)=uM n:=by
 rw[Iu,if_pos h,Int.toNat_natCast]
theorem Iw(n:Nat)(h:n<128):uM n=⟨#[UInt8.ofNat n]⟩:=if_pos h
theorem NG(n:Nat)(h0:¬n<128)(h:n<2048):uM n=⟨#[UInt8.ofNat (192+n / 64),UInt8.ofNat (128+n % 64)]⟩:=(if_neg h0).trans (if_pos h)
theorem NH(n:Nat)(h0:¬n<128)(h1:¬n<2048)(h:n<65536):uM n=⟨#[UInt8.ofNat (224+n / 4096),UInt8.ofNat (128+n / 64 % 64),UInt8.ofNat (128+n % 64)]⟩:=(if_neg h0).trans ((if_neg h1).trans (if_pos h))
theorem NI(n:Nat)(h0:¬n<128)(h1:¬n<2048)(h:¬n<65536):uM n=⟨#[UInt8.ofNat (240+n / 262144),UInt8.ofNat (128+n / 4096 % 64),UInt8.ofNat (128+n / 64 % 64),UInt8.ofNat (128+n % 64)]⟩:=(if_neg h0).trans ((if_neg h1).trans (if_neg h))
theorem zI(n:Nat)(h:n<55296∨(57343<n∧n≤1114111)):Utf8.valid (n:Int)=true:=by
 unfold Utf8.valid;rw[Bool.or_eq_true,Bool.and_eq_true,Bool.and_eq_true];simp only[decide_eq_true_eq];omega
theorem Bv(n:Nat)(h:Utf8.valid (n:Int)=true):bn (n:Int)=bytesL (uM n):=congrArg bytesL (NF n h)
theorem ofNat_toNat(n:Nat)(h:n<256):(UInt8.ofNat n).toNat=n:=by simp;omega
theorem NJ(c:Int)(h0:0≤c)(h:c<128):Lib.byteCells (bn c)=[.int .u8 c]:=by
 obtain⟨n,rfl⟩:=Int.eq_ofNat_of_zero_le h0;rw[Bv n (zI n (by omega)),Iw n (by omega)];simp only[bytesL,Lib.byteCells,List.map_cons,List.map_nil];rw[ofNat_toNat n (by omega)]
theorem NK(c:Int)(h0:128≤c)(h:c<2048):Lib.byteCells (bn c)=[.int .u8 (192+c / 64),.int .u8 (128+c % 64)]:=by
 obtain⟨n,rfl⟩:=Int.eq_ofNat_of_zero_le (show 0≤c by omega);rw[Bv n (zI n (by omega)),NG n (by omega) (by omega)];simp only[bytesL,Lib.byteCells,List.map_cons,List.map_nil];rw[ofNat_toNat _ (by omega),ofNat_toNat _ (by omega)];simp
theorem Iy(c:Int)(h0:2048≤c)(h:c<65536)(hs:c<55296∨57343<c):Lib.byteCells (bn c)=[.int .u8 (224+c / 4096),.int .u8 (128+c / 64 % 64),.int .u8 (128+c % 64)]:=by
 obtain⟨n,rfl⟩:=Int.eq_ofNat_of_zero_le (show 0≤c by omega);rw[Bv n (zI n (by omega)),NH n (by omega) (by omega) (by omega)];simp only[bytesL,Lib.byteCells,List.map_cons,List.map_nil];rw[ofNat_toNat _ (by omega),ofNat_toNat _ (by omega),ofNat_toNat _ (by omega)];simp
theorem NL(c:Int)(h0:65536≤c)(h:c≤1114111):Lib.byteCells (bn c)=[.int .u8 (240+c / 262144),.int .u8 (128+c / 4096 % 64),.int .u8 (128+c / 64 % 64),.int .u8 (128+c % 64)]:=by
 obtain⟨n,rfl⟩:=Int.eq_ofNat_of_zero_le (show 0≤c by omega);rw[Bv n (zI n (by omega)),NI n (by omega) (by omega) (by omega)];simp only[bytesL,Lib.byteCells,List.map_cons,List.map_nil];rw[ofNat_toNat _ (by omega),ofNat_toNat _ (by omega),ofNat_toNat _ (by omega),ofNat_toNat _ (by omega)];simp
theorem Ve(x:Nat):1≤(bytesL (uM x)).length∧(bytesL (uM x)).length≤4:=by
 by_cases h1:x<128
 ·rw[Iw x h1];simp[bytesL]
 ·by_cases h2:x<2048
  ·rw[NG x h1 h2];simp[bytesL]
  ·by_cases h3:x<65536
   ·rw[NH x h1 h2 h3];simp[bytesL]
   ·rw[NI x h1 h2 h3];simp[bytesL]
theorem Iz(c:Int):1≤(bn c).length∧(bn c).length≤4:=by
 unfold bn;rw[Iu];exact Ve _
theorem Vf(s:ByteArray):s=⟨(bytesL s).toArray⟩:=by unfold bytesL;simp
theorem Vg(c:Int):Lib.encodeRune c=bn c:=by
 have key:∀l:List UInt8,Lib.byteCells (Lib.encodeRune c)=Lib.byteCells l→Lib.encodeRune c=l:=by
  intro l h;have inj:∀a b:List UInt8,Lib.byteCells a=Lib.byteCells b→a=b:=by
   intro a;induction a with
   |nil=>intro b h;cases b with
    |nil=>rfl
    |cons y b=>simp[Lib.byteCells] at h
   |cons x a ih=>intro b h;cases b with
    |nil=>simp[Lib.byteCells] at h
    |cons y b=>
     simp only[Lib.byteCells,List.map_cons,List.cons.injEq,Value.int.injEq,true_and] at h;have hx:x=y:=UInt8.toNat_inj.1 (by omega);rw[hx,ih b h.2]
  exact inj _ _ h
 apply key;rw[Lib.byteCells_encodeRune];by_cases h0:c<0∨(55296≤c∧c≤57343)∨1114111<c
 ·have hv:Utf8.valid c=false:=by
   unfold Utf8.valid;rw[Bool.or_eq_false_iff,Bool.and_eq_false_iff,Bool.and_eq_false_iff];simp only[decide_eq_false_iff_not];omega
  have e:bn c=bn ((65533:Nat):Int):=by
   unfold bn;rw[NF 65533 (zI 65533 (by omega)),Iu,hv,if_neg (by decide)];rfl
  rw[e,Lib.runeCells,Lib.encodeRuneZ_bad h0,Iy ((65533:Nat):Int) (by omega) (by omega) (by omega)];rfl
 ·unfold Lib.runeCells;by_cases h1:c≤127
  ·rw[Lib.encodeRuneZ_one (by omega) h1,NJ c (by omega) (by omega)];rfl
  ·by_cases h2:c≤2047
   ·rw[Lib.encodeRuneZ_two (by omega) h2,NK c (by omega) (by omega)];rfl
   ·by_cases h3:c≤65535
    ·rw[Lib.encodeRuneZ_three (by omega),Iy c (by omega) (by omega) (by omega)];rfl
    ·rw[Lib.encodeRuneZ_four (by omega) (by omega),NL c (by omega) (by omega)];rfl
theorem bytesL_length(s:ByteArray):(bytesL s).length=s.size:=Array.length_toList
theorem bytesL_of(l:List UInt8):bytesL ⟨l.toArray⟩=l:=by simp[bytesL]
open Go.RowKit
def mk(l:List UInt8):ByteArray:=⟨l.toArray⟩
theorem bytesL_mk'(l:List UInt8):bytesL (mk l)=l:=bytesL_of l
theorem eX(s:ByteArray):mk (bytesL s)=s:=(Vf s).symm
theorem Vh(a b:List UInt8):mk a++mk b=mk (a++b):=by
 have h:bytesL (mk a++mk b)=bytesL (mk a)++bytesL (mk b):=by
  unfold bytesL;rw[ByteArray.data_append,Array.toList_append]
 rw[←eX (mk a++mk b),h,bytesL_mk',bytesL_mk']
theorem NP(a:List UInt8)(s:ByteArray):mk a++s=mk (a++bytesL s):=by
 conv=>lhs;rw[←eX s]
 exact Vh _ _
theorem mk_size(l:List UInt8):(mk l).size=l.length:=by rw[←bytesL_length,bytesL_mk']
theorem zJ{P:Program}(w:World)(a:List UInt8)(s:ByteArray)(r:List UInt8)(h:a.length+s.size≤9223372036854775807)(hr:a++bytesL s=r):(Op.stringOp .add (mk a) s).run P w=.ok (.string (mk r)) w:=by
 rw[run_string_add_sum w _ _ (by rw[mk_size];exact h),NP,hr]
def sfx(s:ByteArray)(k:Nat):List UInt8:=(bytesL s).drop k
def sub(s:ByteArray)(i k:Nat):List UInt8:=((bytesL s).drop i).take (k - i)
theorem bV(s:ByteArray)(k:Nat)(h:k<s.size):sfx s k=s.get! k :: sfx s (k+1):=by
 unfold sfx bytesL;have h':k<s.data.toList.length:=by rw[Array.length_toList];exact h
 rw[List.drop_eq_getElem_cons h'];congr 1;show _=s.data[k]!;rw[getElem!_pos s.data k h];simp
theorem kU(s:ByteArray)(k:Nat)(h:s.size≤k):sfx s k=[]:=by
 unfold sfx;exact List.drop_of_length_le (by rw[bytesL_length];exact h)
theorem sfx_len(s:ByteArray)(k:Nat):(sfx s k).length=s.size - k:=by unfold sfx;rw[List.length_drop,bytesL_length]
theorem IA(b:UInt8)(n:Nat)(hn:n<256):b=UInt8.ofNat n↔b.toNat=n:=by
 constructor
 ·intro h;subst h;simp[UInt8.toNat_ofNat];omega
 ·intro h;rw[←h];simp
theorem eY(s:ByteArray)(k n:Nat)(hn:n<256):s.get! k=UInt8.ofNat n↔bt s k=n:=IA _ n hn
theorem g10(s:ByteArray)(k:Nat):s.get! k=10↔bt s k=10:=eY s k 10 (by decide)
theorem IB(s:ByteArray)(i k:Nat):(sub s i k).length≤s.size:=by
 unfold sub;rw[List.length_take,List.length_drop,bytesL_length];omega
theorem bytesL_sub(s:ByteArray)(i k:Nat):bytesL (s.extract i k)=sub s i k:=by
 unfold sub bytesL;rw[ByteArray.data_extract,Array.toList_extract,List.extract_eq_take_drop]
theorem wC(s:ByteArray)(k:Nat):s.extract 0 k=mk ((bytesL s).take k):=by
 have:=bytesL_sub s 0 k;rw[←eX (s.extract 0 k),this];rfl
theorem extract_drop(s:ByteArray)(k:Nat):s.extract k s.size=mk (sfx s k):=by
 have:=bytesL_sub s k s.size;rw[←eX (s.extract k s.size),this];unfold sub sfx;rw[List.take_of_length_le (by rw[List.length_drop,bytesL_length];omega)]
theorem Vj{s:ByteArray}{i:Nat}{n r:List UInt8}(h:sfx s i=n++r):sfx s (i+n.length)=r:=by
 unfold sfx at h ⊢;rw[←List.drop_drop,h,List.drop_left]
theorem wE(s:ByteArray)(h:bytesL s=[]):s.toList=[]∧s.toList.isEmpty=true:=by
 have e:s=⟨#[]⟩:=by rw[←eX s,h];rfl
 subst e;exact⟨by rw[Lib.toList_data],by rw[Lib.toList_data];rfl⟩
theorem iV(s:ByteArray)(h:bytesL s≠[]):s.toList≠[]∧s.toList.isEmpty=false:=by
 have e:s.toList=bytesL s:=Lib.toList_data s;rw[e];refine⟨h,?_⟩;cases hb:bytesL s with
 |nil=>exact absurd hb h
 |cons a l=>rfl
theorem size_nil(s:ByteArray):s.size=0↔bytesL s=[]:=by
 rw[←bytesL_length s];exact List.length_eq_zero_iff
def qO(c:Int):Bool:=c==32||c==10
def pV(c:Int):Bool:=(decide (c<32)&&c != 10)||c==127
def jy(c:Int):Int:=
 if (65≤c∧c≤90)∨(192≤c∧c≤222∧c≠215)∨(913≤c∧c≤939∧c≠930)∨(1040≤c∧c≤1071) then c+32 else if 1024≤c∧c≤1039 then c+80 else c
theorem Vk(c:Int)(h0:0≤c)(h:c≤1114111):0≤jy c∧jy c≤1114111:=by unfold jy;(repeat' split) <;> omega
def adK:List (Nat × Nat)→Bool
 | []=>false
 |p :: _=>p.1==10
def lI(gap:Bool)(acc:List UInt8):List (Nat × Nat)→List UInt8
 | []=>acc
 |p :: l=>if qO p.1 then lI true acc l else lI false (acc++((if gap&&!acc.isEmpty then [32] else [])++bn (jy p.1))) l
def kV(s:ByteArray):List UInt8:=lI false [] (pts s)
end Go.Proofs.YtpoafhgbhnblmaaGreatDoor
