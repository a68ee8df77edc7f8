import Derived.Test.YtpoafhgbhnblmaaGreatDoorF03
set_option linter.unusedVariables false
set_option linter.unusedSimpArgs false
set_option maxRecDepth 100000
set_option maxHeartbeats 20000000
namespace Go.Proofs.YtpoafhgbhnblmaaGreatDoor
open Go.Proofs.Tryz (prog)
open Go.RowKit
def VR(s:ByteArray)(i:Nat)(a b:Value):Prop:=
 ∃o k:Nat,o≤8∧i≤k∧k≤s.size∧a=.int .i64 o∧b=.int .i64 k∧Hid (bM s o k=bM s 0 i)
theorem VS(w:World)(o:Obj)(n:Nat):Below w.heap.size w ((w.alloc o).drewN n):=below_drewN ((aer _ w).alloc (aeo _) o) n
theorem Ob{w:World}{o:Obj}{n:Nat}{w':World}(b:Below ((w.alloc o).drewN n).heap.size ((w.alloc o).drewN n) w'):Below w.heap.size w w':=
 (VS w o n).trans (b.mono (by show w.heap.size≤(w.alloc o).heap.size;simp))
theorem I5(r:Int):Lib.runeCells r=Lib.byteCells (bn r):=by rw[←Lib.byteCells_encodeRune,Vg]
theorem Oc(g:Bool)(acc:List UInt8)(p:Nat × Nat)(l:List (Nat × Nat))(h:qO p.1=true):lI g acc (p :: l)=lI true acc l:=by simp[lI,h]
theorem Oe(g:Bool)(acc:List UInt8)(p:Nat × Nat)(l:List (Nat × Nat))(h:qO p.1=false):lI g acc (p :: l)=lI false (acc++((if g&&!acc.isEmpty then [32] else [])++bn (jy p.1))) l:=by simp[lI,h]
def I7(s:ByteArray)(R:List UInt8)(w:World)(g:Bool)(wr:World):Prop:=
 ∃(pos f:Nat) (acc:List UInt8),Lib.IsBuilderF 158 5 w.heap.size w.heap.size (Lib.byteCells acc) wr∧wr.heap[w.heap.size+1]?=some (.stringIter s pos)∧Below w.heap.size w wr∧lI g acc (ku s f pos)=R∧s.size≤pos+f∧acc.length≤8 * pos∧pos≤s.size
theorem VT(s:ByteArray)(w:World)(hs:s.size≤1000000) :
 Calls prog 99 #[.string s] w fun e w'=>e=.returned (.string ⟨(kV s).toArray⟩)∧Below w.heap.size w w':=by
 have HC:Hid (lI false [] (pts s)=kV s):=aen rfl;generalize kV s=R at *;go_enter Tryz.func99,Tryz.ntmps99;go_wp2;go_loopw [4] (fun gv wr=>∃g:Bool,gv=.bool g∧I7 s R w g wr) (fun _ wr=>s.size - wr.iterPos (w.heap.size+1));case atStart=>
  refine⟨false,rfl,0,s.size,[],(Lib.IsBuilderF.of (Lib.fresh_isBuilder 158 5 w)).alloc _,?_,((aer _ w).alloc (aeo _) _).alloc (by simp) _,HC.out,by omega,by simp,by omega⟩;have:=World.iter_heap (w.alloc (.cells #[.pointer none,.slice none 0 0] 158)) s 0;simpa using this
 case round=>
  obtain⟨g,rfl,pos,f,acc,hI,hit,hbw,hacc,hf,hal,hps⟩:=hrel;have aY:=aen hacc;clear hacc;have hsz:w.heap.size+1<wr.heap.size:=(Array.getElem?_eq_some_iff.1 hit).1;by_cases hp:pos<s.size
  ·have hd:=Bq s pos hp;have hstep:Hid (lI g acc (Utf8.decode s pos :: ku s (f - 1) (pos+(Utf8.decode s pos).2))=R):=aen (by
    rw[←aY.out,EG s f pos hp hf])
   have hnx:∀ty,(Instr.next (.pointer (some ⟨w.heap.size+1,0,none⟩)) true ty).run prog wr=_:=fun ty=>Lib.run_next_any_at wr (w.heap.size+1) s pos ty hit hp;have hI2:=hI.iterAt hit (pos+(Utf8.decode s pos).2);have hit2:=aen (Lib.iterAt_heap wr (w.heap.size+1) s pos (pos+(Utf8.decode s pos).2) hit);have hbw2:=Lib.below_iterAt hbw (k:=w.heap.size+1) (by omega) s (pos+(Utf8.decode s pos).2);have hsz2:w.heap.size≤(wr.iterAt (w.heap.size+1) s (pos+(Utf8.decode s pos).2)).heap.size:=by rw[Lib.iterAt_size];omega
   have xE:=aen hit;clear hit;generalize Utf8.decode s pos=D at *;by_cases qQ:qO D.1=true
   ·have dn:Hid (∀(w1:World),Lib.IsBuilderF 158 5 w.heap.size w.heap.size (Lib.byteCells acc) w1→w1.heap[w.heap.size+1]?=some (.stringIter s (pos+D.2))→Below w.heap.size w w1→I7 s R w true w1):=aen (by
     intro w1 h1 h2 h3;refine⟨pos+D.2,f - 1,acc,h1,h2,h3,?_,by omega,by omega,by omega⟩;rw[←hstep.out,Oc _ _ _ _ qQ])
    go_wp2_with (go_at_call 157;refine(EI _ _).mono ?_;rintro e w' ⟨rfl,rfl⟩);go_roundw;case rel=>exact⟨true,rfl,dn.out _ hI2 hit2.out hbw2⟩
    case measure=>
     simp only[World.iterPos,hit2.out,xE.out];omega
   ·rw[Bool.not_eq_true] at qQ;have hlo:=Vk D.1 (by omega) (by omega);have hlen:=Iz (jy D.1);have dn:Hid (∀(acc':List UInt8) (w1:World),acc'=(if g&&!acc.isEmpty then [32] else [])++bn (jy D.1)→Lib.IsBuilderF 158 5 w.heap.size w.heap.size (Lib.byteCells (acc++acc')) w1→w1.heap[w.heap.size+1]?=some (.stringIter s (pos+D.2))→Below w.heap.size w w1→I7 s R w false w1):=aen (by
     intro acc' w1 e h1 h2 h3;refine⟨pos+D.2,f - 1,acc++acc',h1,h2,h3,?_,by omega,?_,by omega⟩
     ·rw[e,←hstep.out,Oe _ _ _ _ qQ]
     ·rw[e];simp only[aey];split <;> simp <;> omega)
    clear hlen;have I8:Hid (∀W,Calls prog 161 #[.int .i64 D.1] W fun e w'=>e=.returned (.int .i64 (jy D.1))∧W=w'):=aen fun W=>Vs D.1 W;generalize jy D.1=L at *;by_cases uS:g=true∧acc≠[]
    ·obtain⟨rfl,hne⟩:=uS;have hpos:0<acc.length:=List.length_pos_iff.2 hne;have hpc:Hid ([32]++bn L=(if true&&!acc.isEmpty then [32] else [])++bn L):=aen (by cases acc <;> simp_all);clear hne;have hbl:=aen (Lib.byteCells_length acc);have hpz:0<(Lib.byteCells acc).length:=by rw[Lib.byteCells_length];exact hpos
     go_wp2_with fail;refine(EI _ _).mono ?_;rintro e w' ⟨rfl,rfl⟩;go_wp2_with fail;refine(Tryz.Builder_Len_f w.heap.size w.heap.size _ _ hI2).mono ?_;rintro e w' ⟨rfl,rfl⟩;go_wp2_with fail;refine(zM w.heap.size w.heap.size _ 32 _ hI2 (by rw[Lib.byteCells_length];omega) hsz2).mono ?_;rintro e W1 ⟨rfl,h1,b1,k1⟩;have hz1:=b1.size;go_wp2_with fail;refine(I8.out _).mono ?_;rintro e w' ⟨rfl,rfl⟩;go_wp2_with fail;refine(I4 w.heap.size w.heap.size _ _ (by omega) (by omega) _ (Or.inr h1) (by rw[aey,Lib.byteCells_length];simp;omega) (by omega)).mono ?_;rintro e W2 ⟨rfl,h2,b2,k2⟩;go_wp2;go_roundw;case rel=>exact⟨false,rfl,dn.out ([32]++bn L) _ hpc.out (by rw[Lib.byteCells_append,Lib.byteCells_append,←I5,←List.append_assoc];exact Or.inr h2) (k2.iter (k1.iter hit2.out (by omega)) (by omega)) ((hbw2.trans b1).trans b2)⟩
     case measure=>
      simp only[World.iterPos,k2.iter (k1.iter hit2.out (by omega)) (by omega),xE.out];omega
    ·have hpc:Hid (bn L=(if g&&!acc.isEmpty then [32] else [])++bn L):=aen (by cases acc <;> cases g <;> simp_all);by_cases hg:g=true
     ·subst hg;have hne:acc=[]:=Classical.not_not.1 fun h=>uS ⟨rfl,h⟩;subst hne;clear uS;go_wp2_with fail;refine(EI _ _).mono ?_;rintro e w' ⟨rfl,rfl⟩;go_wp2_with fail;refine(Tryz.Builder_Len_f w.heap.size w.heap.size _ _ hI2).mono ?_;rintro e w' ⟨rfl,rfl⟩;go_wp2_with fail;refine(I8.out _).mono ?_;rintro e w' ⟨rfl,rfl⟩;go_wp2_with fail;refine(I4 w.heap.size w.heap.size _ _ (by omega) (by omega) _ hI2 (by rw[Lib.byteCells_length];omega) hsz2).mono ?_;rintro e W2 ⟨rfl,h2,b2,k2⟩;go_wp2;go_roundw;case rel=>exact⟨false,rfl,dn.out (bn L) _ hpc.out (by rw[Lib.byteCells_append,←I5];exact Or.inr h2) (k2.iter hit2.out (by omega)) (hbw2.trans b2)⟩
      case measure=>
       simp only[World.iterPos,k2.iter hit2.out (by omega),xE.out];omega
     ·rw[Bool.not_eq_true] at hg;subst hg;clear uS;go_wp2_with fail;refine(EI _ _).mono ?_;rintro e w' ⟨rfl,rfl⟩;go_wp2_with fail;refine(I8.out _).mono ?_;rintro e w' ⟨rfl,rfl⟩;go_wp2_with fail;refine(I4 w.heap.size w.heap.size _ _ (by omega) (by omega) _ hI2 (by rw[Lib.byteCells_length];omega) hsz2).mono ?_;rintro e W2 ⟨rfl,h2,b2,k2⟩;go_wp2;go_roundw;case rel=>exact⟨false,rfl,dn.out (bn L) _ hpc.out (by rw[Lib.byteCells_append,←I5];exact Or.inr h2) (k2.iter hit2.out (by omega)) (hbw2.trans b2)⟩
      case measure=>
       simp only[World.iterPos,k2.iter hit2.out (by omega),xE.out];omega
  ·have hnx:∀ty,(Instr.next (.pointer (some ⟨w.heap.size+1,0,none⟩)) true ty).run prog wr=_:=fun ty=>Lib.run_next_end_at wr (w.heap.size+1) s pos ty hit hp;have hR:Hid (acc=R):=aen (by rw[←aY.out,EF s f pos hp];simp[lI]);go_wp2_with (go_at_call 162;refine(Tryz.Builder_String_any_k w.heap.size w.heap.size acc _ hI (by omega)).mono ?_);rintro e W1 ⟨rfl,_,b1,_⟩;go_wp2;go_ret;exact⟨dX (by rw[hR.out]),hbw.trans b1⟩
theorem VU(c:Int)(h:iH c=true):inB c kW=true∨(inB c kW=false∧(lJ c=true∨(lJ c=false∧((c==32)=true∨((c==32)=false∧((c==45)=true∨((c==45)=false∧((c==95)=true∨((c==95)=false∧((c==46)=true∨((c==46)=false∧(c==58)=true))))))))))):=by
 unfold iH at h;cases h1:inB c kW <;> cases h2:lJ c <;> cases h3:c==32 <;> cases h4:c==45 <;> cases h5:c==95 <;> cases h6:c==46 <;> cases h7:c==58 <;> simp_all
theorem VV(c:Int)(h:iH c=false):inB c kW=false∧lJ c=false∧(c==32)=false∧(c==45)=false∧(c==95)=false∧(c==46)=false∧(c==58)=false:=by
 unfold iH at h;simp only[Bool.or_eq_false_iff] at h;exact⟨h.1.1.1.1.1.1,h.1.1.1.1.1.2,h.1.1.1.1.2,h.1.1.1.2,h.1.1.2,h.1.2,h.2⟩
def Og(g:ByteArray)(w w1:World)(v:Value)(wr:World):Prop:=
 ∃(pos f:Nat) (acc:List (Nat × Nat)),v=.string g∧wr.heap[w1.heap.size]?=some (.stringIter g pos)∧Below w.heap.size w wr∧Hid (acc++ku g f pos=pts g)∧Hid (acc.all (fun p=>iH p.1)=true)∧g.size≤pos+f∧pos≤g.size
end Go.Proofs.YtpoafhgbhnblmaaGreatDoor
