import Derived.Test.YtpoafhgbhnblmaaGreatDoorF33
set_option linter.unusedVariables false
set_option linter.unusedSimpArgs false
set_option maxRecDepth 100000
set_option maxHeartbeats 20000000
namespace Go.Proofs.YtpoafhgbhnblmaaGreatDoor
open Go.Proofs.Tryz (prog)
open Go.RowKit
def Bi(zs:List ByteArray):Nat→List (Nat × Nat)→Prop
 |a,[]=>∀k,a≤k→k<zs.length→aF (ln zs k)=true
 |a,r :: rs=>a≤r.1∧r.1<r.2∧r.2≤zs.length∧(∀k,a≤k→k<r.1→aF (ln zs k)=true)∧Bi zs r.2 rs
theorem adv(zs:List ByteArray)(a:Nat)(hb:aF (ln zs a)=true):∀rs,Bi zs (a+1) rs→Bi zs a rs
 | [],h=>fun k h1 h2=>by
  by_cases e:k=a
  ·subst e;exact hb
  ·exact h k (by omega) h2
 |r :: rs,h=>⟨by have:=h.1;omega,h.2.1,h.2.2.1,fun k h1 h2=>by
  by_cases e:k=a
  ·subst e;exact hb
  ·exact h.2.2.2.1 k (by omega) h2,h.2.2.2.2⟩
theorem adw(n:Nat)(zs:List ByteArray):∀(d i:Nat) (p:List BkT × List (Nat × Nat)),zs.length - i≤d→i≤zs.length→iO (fJ n zs) zs i=some p→Bi zs i p.2∧p.1.length=p.2.length:=by
 intro d;induction d with
 |zero=>
  intro i p hd hi h;rw[Gm _ _ _ (by omega)] at h;injection h with h
  subst h;exact⟨fun k h1 h2=>by omega,rfl⟩
 |succ d ih=>
  intro i p hd hi h;by_cases he:zs.length≤i
  ·rw[Gm _ _ _ he] at h;injection h with h
   subst h;exact⟨fun k h1 h2=>by omega,rfl⟩
  ·cases hb:aF (ln zs i) with
   |true=>
    rw[KL _ _ _ (by omega) hb] at h;obtain⟨h1,h2⟩:=ih (i+1) p (by omega) (by omega) h;exact⟨adv zs i hb _ h1,h2⟩
   |false=>
    rw[Rz _ _ (fun i r h e=>(Dl n zs i r h e).1) i (by omega) hb] at h;cases hm:fJ n zs i (ai (ln zs i)) with
    |none=>rw[hm] at h;cases h
    |some r=>
     obtain⟨b,tq⟩:=r;have hbd:=Dl n zs i _ (by omega) hm;simp only[] at hbd;rw[hm] at h;simp only[] at h;obtain⟨q,hq,rfl⟩:=Am h;obtain⟨h1,h2⟩:=ih tq q (by omega) hbd.2 hq;exact⟨⟨aeo _,hbd.1,hbd.2,fun k a b=>by simp only[] at b;omega,h1⟩,by simp[h2]⟩
theorem adx(n:Nat)(zs:List ByteArray)(p:List BkT × List (Nat × Nat))(h:bg n zs=some p):Bi zs 0 p.2∧p.1.length=p.2.length:=by
 rw[KN] at h;exact adw n zs _ 0 p (aeo _) (Nat.zero_le _) h
theorem UX(zs:List ByteArray):∀(rs:List (Nat × Nat)) (a:Nat),a≤zs.length→Bi zs a rs→a+rs.length≤zs.length
 | [],a,ha,h=>ha
 |r :: rs,a,ha,h=>by
  have:=UX zs rs r.2 h.2.2.1 h.2.2.2.2;have h1:=h.1;have h2:=h.2.1;rw[aeC];omega
theorem Il(rs:List (Nat × Nat))(k:Nat)(h:k<rs.length):(qF rs)[k * 2]?=some (.int .i64 rs[k].1)∧(qF rs)[k * 2+1]?=some (.int .i64 rs[k].2):=by
 induction rs generalizing k with
 |nil=>exact absurd h (by simp)
 |cons r rs ih=>
  unfold qF at ih ⊢;rw[List.flatMap_cons];cases k with
  |zero=>exact⟨rfl,rfl⟩
  |succ k=>
   obtain⟨h1,h2⟩:=ih k (by simpa using h);rw[show (k+1) * 2=k * 2+2 by omega,show k * 2+2+1=(k * 2+1)+2 by omega];exact⟨by rw[List.getElem?_append_right (by simp)];simpa using h1,by rw[List.getElem?_append_right (by simp)];simpa using h2⟩
theorem UY(zs:List ByteArray)(A A':Option Addr)(c c':Nat)(S S':Nat→Prop)(w:World)(h:ReadsS w S 1 A zs.length (strs zs))(h':ReadsS w S' 1 A' zs.length (strs zs))(hS:∀g,S g→g<w.heap.size)(hS':∀g,S' g→g<w.heap.size)(hl:zs.length≤32) :
 Calls prog 32 #[.slice A zs.length c,.slice A' zs.length c'] w fun e w'=>e=.returned (.bool true)∧Below w.heap.size w w':=by
 have HR:=aen h;have Nq:=aen h';have HS:=aen hS;have qN:=aen hS';clear h h' hS hS';go_enter Tryz.func32,Tryz.ntmps32;go_wp2_with fail;go_loopw [5] (fun v5 wr=>∃k:Nat,v5=.int .i64 k∧k≤zs.length∧Hid (Below w.heap.size w wr)) (fun v5 _=>zs.length - (intOf v5).toNat);case atStart=>exact⟨0,rfl,Nat.zero_le _,aen (aer _ _)⟩
 case round=>
  obtain⟨k,rfl,hk,HB⟩:=hrel;by_cases hlt:k<zs.length
  ·obtain⟨g,o,rfl,hg,hc⟩:=HR.out.row (by omega) (by decide);obtain⟨g',o',rfl,hg',hc'⟩:=Nq.out.row (by omega) (by decide);have f1:=(HB.out.cell (p:=⟨g,o+k,none⟩) (HS.out g hg)).trans (hc k _ (sW zs k hlt));have f2:=(HB.out.cell (p:=⟨g',o'+k,none⟩) (qN.out g' hg')).trans (hc' k _ (sW zs k hlt));clear hc hc';generalize zs[k]=z at *;have q1:(z.toList==z.toList)=true:=beq_self_eq_true _;go_wp2_with fail;go_quiet (fail);go_wp2_with fail;go_roundw;case rel=>exact⟨k+1,by go_num,by omega,aen (below_drewN HB.out _)⟩
   case measure=>simp[intOf];omega
  ·go_wp2_with fail;go_ret;exact⟨rfl,HB.out⟩
theorem ady(ps:List (ByteArray × ByteArray))(A A':Option Addr)(c c':Nat)(S S':Nat→Prop)(w:World)(h:ReadsS w S 2 A ps.length (aH ps))(h':ReadsS w S' 2 A' ps.length (aH ps))(hS:∀g,S g→g<w.heap.size)(hS':∀g,S' g→g<w.heap.size)(hl:ps.length≤32) :
 Calls prog 33 #[.slice A ps.length c,.slice A' ps.length c'] w fun e w'=>e=.returned (.bool true)∧Below w.heap.size w w':=by
 have HR:=aen h;have Nq:=aen h';have HS:=aen hS;have qN:=aen hS';clear h h' hS hS';go_enter Tryz.func33,Tryz.ntmps33;go_wp2_with fail;go_loopw [5] (fun v5 wr=>∃k:Nat,v5=.int .i64 k∧k≤ps.length∧Hid (Below w.heap.size w wr)) (fun v5 _=>ps.length - (intOf v5).toNat);case atStart=>exact⟨0,rfl,Nat.zero_le _,aen (aer _ _)⟩
 case round=>
  obtain⟨k,rfl,hk,HB⟩:=hrel;by_cases hlt:k<ps.length
  ·obtain⟨g,o,rfl,hg,hc⟩:=HR.out.row (by omega) (by decide);obtain⟨g',o',rfl,hg',hc'⟩:=Nq.out.row (by omega) (by decide);have f1:=(HB.out.cell (p:=⟨g,o+k * 2,none⟩) (HS.out g hg)).trans (hc (k * 2) _ (xM ps k hlt).1);have f2:=(HB.out.cell (p:=⟨g',o'+k * 2,none⟩) (qN.out g' hg')).trans (hc' (k * 2) _ (xM ps k hlt).1);have f3:wr.cell? ⟨g,o+k * 2+1,none⟩=some (.string ps[k].2):=(HB.out.cell (p:=⟨g,o+k * 2+1,none⟩) (HS.out g hg)).trans (by rw[Nat.add_assoc];exact hc (k * 2+1) _ (xM ps k hlt).2);have f4:wr.cell? ⟨g',o'+k * 2+1,none⟩=some (.string ps[k].2):=(HB.out.cell (p:=⟨g',o'+k * 2+1,none⟩) (qN.out g' hg')).trans (by rw[Nat.add_assoc];exact hc' (k * 2+1) _ (xM ps k hlt).2);clear hc hc';generalize ps[k].1=y at *;generalize ps[k].2=z at *;have q1:(z.toList==z.toList)=true:=beq_self_eq_true _;have q2:(y.toList==y.toList)=true:=beq_self_eq_true _;go_wp2_with fail;go_quiet (fail);go_wp2_with fail;go_roundw;case rel=>exact⟨k+1,by go_num,by omega,aen (below_drewN HB.out _)⟩
   case measure=>simp[intOf];omega
  ·go_wp2_with fail;go_ret;exact⟨rfl,HB.out⟩
theorem aW.up{w W:World}{S:Nat→Prop}{a:AttrL}{A1 A2:Option Addr}(h:aW w S a A1 A2)(hS:∀g,S g→g<w.heap.size)(hb:Below w.heap.size w W):aW W S a A1 A2:=
 h.keep (fun g hg=>hb.block g (hS g hg)) fun _ h=>h
theorem UZ(a:AttrL)(A1 A2 Io EC:Option Addr)(c1 c2 c1' c2':Nat)(S S':Nat→Prop)(w:World)(h:aW w S a A1 A2)(h':aW w S' a Io EC)(hS:∀g,S g→g<w.heap.size)(hS':∀g,S' g→g<w.heap.size) :
 Calls prog 24 #[.agg #[.string a.id,.slice A1 a.cl.length c1,.slice A2 a.pr.length c2],.agg #[.string a.id,.slice Io a.cl.length c1',.slice EC a.pr.length c2']] w fun e w'=>e=.returned (.bool true)∧Below w.heap.size w w':=by
 have HT:Hid (∀W,Below w.heap.size w W→Calls prog 32 #[.slice A1 a.cl.length c1,.slice Io a.cl.length c1'] W fun e w'=>e=.returned (.bool true)∧Below W.heap.size W w'):=aen fun W hb=>UY a.cl A1 Io c1 c1' S S' W (h.up hS hb).cls (h'.up hS' hb).cls (fun g hg=>aeA (hS g hg) hb.size) (fun g hg=>aeA (hS' g hg) hb.size) h.c32;have HP:Hid (∀W,Below w.heap.size w W→Calls prog 33 #[.slice A2 a.pr.length c2,.slice EC a.pr.length c2'] W fun e w'=>e=.returned (.bool true)∧Below W.heap.size W w'):=aen fun W hb=>ady a.pr A2 EC c2 c2' S S' W (h.up hS hb).aH (h'.up hS' hb).aH (fun g hg=>aeA (hS g hg) hb.size) (fun g hg=>aeA (hS' g hg) hb.size) h.p32;have q1:(a.id.toList==a.id.toList)=true:=beq_self_eq_true _;have HB0:Hid (∀o o',Below w.heap.size w ((w.alloc o).alloc o')):=aen fun o o'=>((aer _ w).alloc (aeo _) _).alloc (by simp) _;have HK:Hid (∀(W:World) o o',Below ((w.alloc o).alloc o').heap.size ((w.alloc o).alloc o') W→Below w.heap.size w W):=aen fun W o o' hb=>(HB0.out o o').trans (hb.mono (by simp;omega));have HC:Hid (∀(W:World) (x:Array Value) (y:Array Value),Below ((w.alloc (.cells x 43)).alloc (.cells y 43)).heap.size ((w.alloc (.cells x 43)).alloc (.cells y 43)) W→W.cell? ⟨w.heap.size,2,none⟩=x[2]?∧W.cell? ⟨w.heap.size+1,2,none⟩=y[2]?):=aen fun W x y hb=>by
  have h1:=ae.below (ae.alloc (ae.new w 43 x) (.cells y 43)) hb (by simp;omega);have h2:=ae.below (ae.new (w.alloc (.cells x 43)) 43 y) hb (by simp);simp at h2;exact⟨h1.cell 2,h2.cell 2⟩
 clear h h' hS hS';go_enter Tryz.func24,Tryz.ntmps24;go_wp2_with fail;with_reducible refine(HT.out _ (HB0.out _ _)).mono ?_
 rintro e w1 ⟨rfl,b1⟩;obtain⟨k1,k2⟩:=HC.out _ _ _ b1;have hk1:w1.cell? ⟨w.heap.size,2,none⟩=some (.slice A2 a.pr.length c2):=k1;have hk2:w1.cell? ⟨w.heap.size+1,2,none⟩=some (.slice EC a.pr.length c2'):=k2;have HB1:=aen (HK.out _ _ _ b1);clear b1 k1 k2;go_wp2_with fail;with_reducible refine(HP.out _ HB1.out).mono ?_
 rintro e w2 ⟨rfl,b2⟩;go_wp2_with fail;go_ret;exact⟨rfl,HB1.out.trans (b2.mono HB1.out.size)⟩
theorem U0(w:World):Calls prog 25 #[.slice none 0 0,.slice none 0 0] w fun e w'=>e=.returned (.bool true)∧Below w.heap.size w w':=by
 go_enter Tryz.func25,Tryz.ntmps25;go_wp2_with fail;go_loop [5] (fun v5=>v5=.int .i64 0) (fun _=>0);case atStart=>rfl
 case round=>
  obtain rfl:=hrel;go_wp2_with fail;go_ret;exact⟨rfl,aer _ _⟩
theorem xB{W:World}{g:Nat}{s:ByteArray}(h:ae W g 55 #[.int .i64 1,.string s,.string ⟨#[]⟩,.string ⟨#[]⟩,.string ⟨#[]⟩,.slice none 0 0,.slice none 0 0,.slice none 0 0,.slice none 0 0,.slice none 0 0]):W.cell? ⟨g,0,none⟩=some (.int .i64 1)∧W.cell? ⟨g,1,none⟩=some (.string s)∧W.cell? ⟨g,2,none⟩=some (.string ⟨#[]⟩)∧W.cell? ⟨g,3,none⟩=some (.string ⟨#[]⟩)∧W.cell? ⟨g,4,none⟩=some (.string ⟨#[]⟩)∧W.cell? ⟨g,5,none⟩=some (.slice none 0 0)∧W.cell? ⟨g,6,none⟩=some (.slice none 0 0)∧W.cell? ⟨g,7,none⟩=some (.slice none 0 0)∧W.cell? ⟨g,8,none⟩=some (.slice none 0 0)∧W.cell? ⟨g,9,none⟩=some (.slice none 0 0):=⟨h.cell 0,h.cell 1,h.cell 2,h.cell 3,h.cell 4,h.cell 5,h.cell 6,h.cell 7,h.cell 8,h.cell 9⟩
theorem adz(s:ByteArray)(A A':Option Addr)(c c':Nat)(S S':Nat→Prop)(w:World)(h:ReadsS w S 10 A 1 (Ak s))(h':ReadsS w S' 10 A' 1 (Ak s))(hS:∀g,S g→g<w.heap.size)(hS':∀g,S' g→g<w.heap.size) :
 Calls prog 25 #[.slice A 1 c,.slice A' 1 c'] w fun e w'=>e=.returned (.bool true)∧Below w.heap.size w w':=by
 obtain⟨g,o,rfl,hg,hc⟩:=h.row (by decide) (by decide);obtain⟨g',o',rfl,hg',hc'⟩:=h'.row (by decide) (by decide);have hgl:=hS g hg;have Nr:=hS' g' hg';have HF:Hid (∀W,Below w.heap.size w W→∀j u,(Ak s)[j]?=some u→W.cell? ⟨g,o+j,none⟩=some u∧W.cell? ⟨g',o'+j,none⟩=some u):=aen fun W hb j u hu=>⟨(hb.cell (p:=⟨g,o+j,none⟩) hgl).trans (hc j u hu),(hb.cell (p:=⟨g',o'+j,none⟩) Nr).trans (hc' j u hu)⟩;clear h h' hc hc' hS hS' hg hg';go_enter Tryz.func25,Tryz.ntmps25;go_wp2_with fail;go_loopw [5] (fun v5 wr=>∃k:Nat,v5=.int .i64 k∧k≤1∧Hid (Below w.heap.size w wr)) (fun v5 _=>1 - (intOf v5).toNat);case atStart=>exact⟨0,rfl,by omega,aen (aer _ _)⟩
 case round=>
  obtain⟨k,rfl,hk,HB⟩:=hrel;by_cases hlt:k<1
  ·obtain rfl:k=0:=by omega
   have ED:Hid (∀x,Below wr.heap.size wr (wr.alloc x).drew):=aen fun x=>((aer _ wr).alloc (aeo _) _).drew;have iQ:Hid (∀x y,Below wr.heap.size wr ((wr.alloc x).alloc y).drew):=aen fun x y=>(((aer _ wr).alloc (aeo _) _).alloc (by simp) _).drew;have EE:Hid (∀(x:Array Value) (y:Obj),ae ((wr.alloc (.cells x 55)).alloc y).drew wr.heap.size 55 x):=aen fun x y=>ae.alloc (ae.new wr _ x) y;have lF:Hid (∀(x:Obj) (y:Array Value),ae ((wr.alloc x).alloc (.cells y 55)).drew (wr.heap.size+1) 55 y):=aen fun x y=>by
    have h:=ae.new (wr.alloc x) 55 y;rw[sZ] at h;exact h
   have aB:=aen (aer wr.heap.size wr);go_upto_region 6 with fail
   go_cut [6,7] from 20 to 27 (fun s6 s7 wx=>∃g6 g7:Nat,s6=.pointer (some ⟨g6,0,none⟩)∧s7=.pointer (some ⟨g7,0,none⟩)∧ae wx g6 55 #[.int .i64 1,.string s,.string ⟨#[]⟩,.string ⟨#[]⟩,.string ⟨#[]⟩,.slice none 0 0,.slice none 0 0,.slice none 0 0,.slice none 0 0,.slice none 0 0]∧ae wx g7 55 #[.int .i64 1,.string s,.string ⟨#[]⟩,.string ⟨#[]⟩,.string ⟨#[]⟩,.slice none 0 0,.slice none 0 0,.slice none 0 0,.slice none 0 0,.slice none 0 0]∧Below w.heap.size w wx);case first=>
    refine wp_region_held_drew (S:=fun W'=>Below wr.heap.size wr W') (by kernel_rfl) aB.out.drew (fun hHeld=>?_);refine tk 0 (.slice (some ⟨g,o,none⟩) 1 c) rfl hHeld (fun W' hSw=>?_) ?_
    ·go_simp
    refine tk 1 (.int .i64 0) rfl hHeld (fun W' hSw=>?_) ?_
    ·go_simp
    refine tk 2 (.pointer (some ⟨g,o,none⟩)) rfl hHeld (fun W' hSw=>?_) ?_
    ·go_simp
    refine tk 3 (.agg #[.int .i64 1,.string s,.string ⟨#[]⟩,.string ⟨#[]⟩,.string ⟨#[]⟩,.slice none 0 0,.slice none 0 0,.slice none 0 0,.slice none 0 0,.slice none 0 0]) rfl hHeld (fun W' hSw=>?_) ?_
    ·have e0:W'.cell? ⟨g,o,none⟩=_:=(HF.out W' (HB.out.trans (hSw.mono HB.out.size)) 0 _ rfl).1;have e1:=(HF.out W' (HB.out.trans (hSw.mono HB.out.size)) 1 _ rfl).1;have e2:=(HF.out W' (HB.out.trans (hSw.mono HB.out.size)) 2 _ rfl).1;have e3:=(HF.out W' (HB.out.trans (hSw.mono HB.out.size)) 3 _ rfl).1;have e4:=(HF.out W' (HB.out.trans (hSw.mono HB.out.size)) 4 _ rfl).1;have e5:=(HF.out W' (HB.out.trans (hSw.mono HB.out.size)) 5 _ rfl).1;have e6:=(HF.out W' (HB.out.trans (hSw.mono HB.out.size)) 6 _ rfl).1;have e7:=(HF.out W' (HB.out.trans (hSw.mono HB.out.size)) 7 _ rfl).1;have e8:=(HF.out W' (HB.out.trans (hSw.mono HB.out.size)) 8 _ rfl).1;have e9:=(HF.out W' (HB.out.trans (hSw.mono HB.out.size)) 9 _ rfl).1;go_simp
    refine tk 4 (.slice (some ⟨g',o',none⟩) 1 c') rfl hHeld (fun W' hSw=>?_) ?_
    ·go_simp
    refine tk 5 (.int .i64 0) rfl hHeld (fun W' hSw=>?_) ?_
    ·go_simp
    refine tk 6 (.pointer (some ⟨g',o',none⟩)) rfl hHeld (fun W' hSw=>?_) ?_
    ·go_simp
    refine tk 7 (.agg #[.int .i64 1,.string s,.string ⟨#[]⟩,.string ⟨#[]⟩,.string ⟨#[]⟩,.slice none 0 0,.slice none 0 0,.slice none 0 0,.slice none 0 0,.slice none 0 0]) rfl hHeld (fun W' hSw=>?_) ?_
    ·have e0:W'.cell? ⟨g',o',none⟩=_:=(HF.out W' (HB.out.trans (hSw.mono HB.out.size)) 0 _ rfl).2;have e1:=(HF.out W' (HB.out.trans (hSw.mono HB.out.size)) 1 _ rfl).2;have e2:=(HF.out W' (HB.out.trans (hSw.mono HB.out.size)) 2 _ rfl).2;have e3:=(HF.out W' (HB.out.trans (hSw.mono HB.out.size)) 3 _ rfl).2;have e4:=(HF.out W' (HB.out.trans (hSw.mono HB.out.size)) 4 _ rfl).2;have e5:=(HF.out W' (HB.out.trans (hSw.mono HB.out.size)) 5 _ rfl).2;have e6:=(HF.out W' (HB.out.trans (hSw.mono HB.out.size)) 6 _ rfl).2;have e7:=(HF.out W' (HB.out.trans (hSw.mono HB.out.size)) 7 _ rfl).2;have e8:=(HF.out W' (HB.out.trans (hSw.mono HB.out.size)) 8 _ rfl).2;have e9:=(HF.out W' (HB.out.trans (hSw.mono HB.out.size)) 9 _ rfl).2;go_simp
    refine wpAnyH_ready (rs:=[8,9]) (by kernel_rfl) (by simp) (AllReadyH.cons rfl (fun K hK=>?_) (AllReadyH.cons rfl (fun K hK=>?_) AllReadyH.nil))
    ·go_simp;refine hK.out _ _ (ED.out _) (fun hHeld=>?_);clear hK K;refine aC 9 rfl (fun K hK=>?_);go_simp;refine hK.out _ _ (iQ.out _ _) (fun hHeld=>?_);clear hK K;refine aC 10 rfl (fun K hK=>?_);go_simp;refine hK.out _ _ (iQ.out _ _) (fun hHeld=>?_);clear hK K;refine aC 11 rfl (fun K hK=>?_);go_simp;refine hK.out _ _ (iQ.out _ _) (fun hHeld=>?_);clear hK K;refine wpAnyH_done (by kernel_rfl) ?_ _;go_wp2_with fail;go_meet;exact⟨wr.heap.size,wr.heap.size+1,rfl,rfl,EE.out _ _,lF.out _ _,HB.out.trans ((iQ.out _ _).mono HB.out.size)⟩
    ·go_simp;refine hK.out _ _ (ED.out _) (fun hHeld=>?_);clear hK K;refine aC 8 rfl (fun K hK=>?_);go_simp;refine hK.out _ _ (iQ.out _ _) (fun hHeld=>?_);clear hK K;refine aC 10 rfl (fun K hK=>?_);go_simp;refine hK.out _ _ (iQ.out _ _) (fun hHeld=>?_);clear hK K;refine aC 11 rfl (fun K hK=>?_);go_simp;refine hK.out _ _ (iQ.out _ _) (fun hHeld=>?_);clear hK K;refine wpAnyH_done (by kernel_rfl) ?_ _;go_wp2_with fail;go_meet;exact⟨wr.heap.size+1,wr.heap.size,rfl,rfl,lF.out _ _,EE.out _ _,HB.out.trans ((iQ.out _ _).mono HB.out.size)⟩
   case rest=>
    obtain⟨g6,g7,rfl,rfl,h6,h7,hbw⟩:=hcut;have eP:=aen hbw;have Ns:=h6.lt;have Nu:=h7.lt;have HI:Hid (∀W,Below wc.heap.size wc W→ae W g6 55 #[.int .i64 1,.string s,.string ⟨#[]⟩,.string ⟨#[]⟩,.string ⟨#[]⟩,.slice none 0 0,.slice none 0 0,.slice none 0 0,.slice none 0 0,.slice none 0 0]∧ae W g7 55 #[.int .i64 1,.string s,.string ⟨#[]⟩,.string ⟨#[]⟩,.string ⟨#[]⟩,.slice none 0 0,.slice none 0 0,.slice none 0 0,.slice none 0 0,.slice none 0 0]):=aen fun W h=>⟨h6.below h Ns,h7.below h Nu⟩;have HAt:Hid (∀W,Calls prog 24 #[.agg #[.string ⟨#[]⟩,.slice none 0 0,.slice none 0 0],.agg #[.string ⟨#[]⟩,.slice none 0 0,.slice none 0 0]] W fun e w'=>e=.returned (.bool true)∧Below W.heap.size W w'):=aen fun W=>UZ ak none none none none 0 0 0 0 (fun _=>False) (fun _=>False) W (aW.empty _ _ _ _) (aW.empty _ _ _ _) (fun _ h=>h.elim) (fun _ h=>h.elim);have HTx:Hid (∀W,Calls prog 32 #[.slice none 0 0,.slice none 0 0] W fun e w'=>e=.returned (.bool true)∧Below W.heap.size W w'):=aen fun W=>UY [] none none 0 0 (fun _=>False) (fun _=>False) W ReadsS.none_ ReadsS.none_ (fun _ h=>h.elim) (fun _ h=>h.elim) (by decide);have eU:=aen U0;have q1:(s.toList==s.toList)=true:=beq_self_eq_true _;obtain⟨a0,a1,a2,a3,a4,a5,a6,a7,a8,a9⟩:=xB h6;obtain⟨b0,b1,b2,b3,b4,b5,b6,b7,b8,b9⟩:=xB h7;clear h6 h7 hbw;go_wp2_with fail;with_reducible refine(HAt.out _).mono ?_
    rintro e w5 ⟨rfl,c5⟩;have uI:=aen c5;obtain⟨a0,a1,a2,a3,a4,a5,a6,a7,a8,a9⟩:=xB (HI.out _ uI.out).1;obtain⟨b0,b1,b2,b3,b4,b5,b6,b7,b8,b9⟩:=xB (HI.out _ uI.out).2;clear c5;go_wp2_with fail;with_reducible refine(HTx.out _).mono ?_
    rintro e w6 ⟨rfl,c6⟩;have uJ:=aen (uI.out.trans (c6.mono uI.out.size));obtain⟨a0,a1,a2,a3,a4,a5,a6,a7,a8,a9⟩:=xB (HI.out _ uJ.out).1;obtain⟨b0,b1,b2,b3,b4,b5,b6,b7,b8,b9⟩:=xB (HI.out _ uJ.out).2;clear c6;go_wp2_with fail;with_reducible refine(eU.out _).mono ?_
    rintro e w7 ⟨rfl,c7⟩;have zH:=aen (uJ.out.trans (c7.mono uJ.out.size));obtain⟨a0,a1,a2,a3,a4,a5,a6,a7,a8,a9⟩:=xB (HI.out _ zH.out).1;obtain⟨b0,b1,b2,b3,b4,b5,b6,b7,b8,b9⟩:=xB (HI.out _ zH.out).2;clear c7;go_wp2_with fail;go_loop [8] (fun v8=>v8=.int .i64 0) (fun _=>0);case atStart=>rfl
    case round=>
     obtain rfl:=hrel;go_wp2_with fail;go_roundw;case rel=>exact⟨1,rfl,aeo _,aen (eP.out.trans (zH.out.mono eP.out.size))⟩
     case measure=>simp[intOf]
  ·obtain rfl:k=1:=by omega
   go_wp2_with fail;go_ret;exact⟨rfl,HB.out⟩
end Go.Proofs.YtpoafhgbhnblmaaGreatDoor
