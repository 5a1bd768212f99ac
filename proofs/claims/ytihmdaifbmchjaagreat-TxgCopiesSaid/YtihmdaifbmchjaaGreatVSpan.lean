/-
  WEAKEST CONDITIONS of some functions of this program, printed by a program.
-/
import Derived.Test.YtihmdaifbmchjaaGreatVAbb
import Derived.Test.YtihmdaifbmchjaaGreatRows
set_option linter.unusedVariables false
set_option maxRecDepth 100000
namespace Go.Am
open Go.Proofs
theorem zoM {K:Xs} (hk:K 146=none) (a:Option Addr) (b d:Nat) (e:Int) (h:AH) (Q:Value→AH→Prop) (H:
 ∀f,f=h.alloc (.cells [.int .i64 e] 3 false)→
 ∀g,g=f.alloc (.cells [.bool false] 4 false)→
 Wf Tryz.prog K 111 [.slice a b d] g fun j k=>
 (∃(l:FuncId) (cap5:List Value),j=(.func (.func l) #[] cap5.toArray)∧
 (∃(m:Nat→AH→Prop) (n:AX→AH→Prop) (N8:Nat) (item9:Nat→List Value) (G12 o:AH→AH→Prop),
 (K l=none∧([8]:List Nat)=[8])∧
 (∀i,i < N8→∃p,item9 i=[.int .i64 p])∧
 (∀g,g.next=k.next+1→(∀c,c≠k.next→g.get c=k.get c)→m 0 g)∧
 (∀i g q,m i g→za9 k.next g q→m i q)∧
 (∀x g q,n x g→za9 k.next g q→n x q)∧
 (∀i g q,m i g→G12 g q→m i q)∧(∀x g q,n x g→G12 g q→n x q)∧(∀g q,G12 g q→q.get k.next=g.get k.next)∧
 (∀(r:Nat) (s:AH),r < N8→m r s→(∃L,s.get k.next=some (.loop L))→∀(t:Int),item9 r=[.int .i64 t]→
 AX.normal=AX.normal∧(s.get k.next=s.get k.next)∧∀u,za9 k.next s u→(∃L,u.get k.next=some (.loop L))→
 ∃v,ld1 u h.next 0=some (.int .i64 v)∧
 (((v:Int)≤t→∃w,ld1 u h.next 0=some (.int .i64 w)∧
 (((t:Int)=w→∃y,st1 u f.next 0 (.bool true)=some y∧
 ((y.get k.next=u.get k.next∧n .ret y∧∀z,za9 k.next y z→o s z)))∧
 (¬(t:Int)=w→∃aa,st1 u f.next 0 (.bool false)=some aa∧
 ((aa.get k.next=u.get k.next∧n .ret aa∧∀z,za9 k.next aa z→o s z)))))∧
 (¬(v:Int)≤t→(u.get k.next=u.get k.next∧m (r+1) u∧∀z,za9 k.next u z→o s z))))∧
 (∀(JJ21:Nat→AH→Prop) (DD22:AH→Prop),(∀i g,JJ21 i g→m i g)→(∀i g q,JJ21 i g→G12 g q→JJ21 i q)→(∀g q,DD22 g→G12 g q→DD22 q)→
 (∀(ab:Nat) (ac:AH),ab < N8→JJ21 ab ac→Wy Tryz.prog K k.next (item9 ab) ac fun ad ae=>((ad=.bool true∧JJ21 (ab+1) ae)∨(ad=.bool false∧DD22 ae))∧o ac ae)→
 ∀af,JJ21 0 af→Wf Tryz.prog K l ([(Value.func (Fn.yield k.next) #[] #[])] ++ cap5) af fun _ ag=>JJ21 N8 ag∨DD22 ag)∧
 (∀ah,m N8 ah→∃ai,st1 (ah.del k.next) f.next 0 (.bool false)=some ai∧
 (((ld1 ai f.next 0=some (.bool true)∧
 (Q (.bool true) ai))∨(ld1 ai f.next 0=some (.bool false)∧
 (Q (.bool false) ai)))))∧
 (∀aj,n .ret aj→((ld1 (aj.del k.next) f.next 0=some (.bool true)∧
 (Q (.bool true) (aj.del k.next)))∨(ld1 (aj.del k.next) f.next 0=some (.bool false)∧
 (Q (.bool false) (aj.del k.next)))))∧
 (∀(ak:AX) (aj:AH),ak≠.normal→n ak aj→zg0 ak [.ret]=true)))):
 Wf Tryz.prog K 146 [.slice a b d,.int .i64 e] h Q:=
  zaf (hs:=[(2,[(8,.int .i64 0)])]) hk (Eq.mpr (by kernel_rfl) H)
theorem zcY {K:Xs} (hk:K 111=none) (a:Option Addr) (b d:Nat) (h:AH) (Q:Value→AH→Prop) (H:
 ∀e,e=h.alloc (.cells [.slice a b d] 34 false)→
 Q (.func (.func 143) #[] #[(.pointer (some ⟨h.next,0,none⟩))]) e):
 Wf Tryz.prog K 111 [.slice a b d] h Q:=
  zaf (hs:=[]) hk (Eq.mpr (by kernel_rfl) H)
theorem zjm {K:Xs} (hk:K 143=none) (ya0:Nat) (a:Option Addr) (h:AH) (Q:Value→AH→Prop) (H:
 zai a fun b d=>(∃e f g,ld1 h b d=some (.slice e f g)∧
 (Wf Tryz.prog K 140 [.slice e f g] h fun i j=>
 (((i=(.bool true)∧
 (zai a fun k l=>(∃m o p,ld1 j k l=some (.slice m o p)∧
 (∃q:Int→Nat→AH→Prop,(∃n,q 0 n j)∧
 ∀(r:Nat) (s:AH),∀(t:Int),q t r s→
 ((t:Int) < ((o:Nat):Int)→zai m fun u v=>(((0:Int)≤t)∧((t:Int) < ((o:Nat):Int))∧
 (∃w x,ldN s u (v+Int.toNat t * 2) 2=some [.int .i64 w,.int .i64 x]∧
 (∀y,y=s.alloc (.cells [.int .i64 0,.int .i64 0] 90 false)→
 (2=2)∧∃z,stN y s.next 0 [.int .i64 w,.int .i64 x]=some z∧
 (∃aa,ld1 z s.next 1=some (.int .i64 aa)∧
 (∃ab:Int→Nat→AH→Prop,(∃n,ab 0 n z)∧
 ∀(ac:Nat) (ad:AH),∀(ae:Int),ab ae ac ad→
 ((ae:Int) < aa→∃af,ld1 ad s.next 0=some (.int .i64 af)∧
 (∀ag:Int,ag=IntKind.wrap .i64 (af+ae)→Wy Tryz.prog K ya0 [.int .i64 ag] ad fun ah ai=>∃aj,ah=.bool aj∧
 (cond (!aj) (Q (.tuple #[]) ai)
 (∀ak:Int,ak=IntKind.wrap .i64 (ae+1)→∃al,al < ac∧ab ak al ai))))∧
 (¬(ae:Int) < aa→∀am:Int,am=IntKind.wrap .i64 (t+1)→∃an,an < r∧q am an ad)))))))∧
 (¬(t:Int) < ((o:Nat):Int)→Q (.tuple #[]) s)))))∨(i=(.bool false)∧
 (Q (.tuple #[]) j))))))):
 Wf Tryz.prog K 143 [(Value.func (Fn.yield ya0) #[] #[]),.pointer a] h Q:=
  zaf (hs:=[(2,[(11,.int .i64 0)]),(5,[(17,.int .i64 0)])]) hk (Eq.mpr (by kernel_rfl) H)
theorem zjn {K:Xs} (hk:K 161=none) (a:Int) (b:Int) (h:AH) (Q:Value→AH→Prop) (H:
 ∀d,d=h.alloc (.cells [.int .i64 a,.int .i64 b] 90 false)→
 ∃e,ld1 d h.next 0=some (.int .i64 e)∧
 (((0:Int)≤e→∃f,ld1 d h.next 0=some (.int .i64 f)∧
 (((f:Int) < 4096→∃g,ld1 d h.next 1=some (.int .i64 g)∧
 (((1:Int)≤g→∃i,ld1 d h.next 1=some (.int .i64 i)∧
 (∃j,ld1 d h.next 0=some (.int .i64 j)∧
 (∀k:Int,k=IntKind.wrap .i64 (4096 - j)→((i:Int)≤k→Q (.bool true) d)∧
 (¬(i:Int)≤k→Q (.bool false) d))))∧
 (¬(1:Int)≤g→Q (.bool false) d)))∧
 (¬(f:Int) < 4096→Q (.bool false) d)))∧
 (¬(0:Int)≤e→Q (.bool false) d))):
 Wf Tryz.prog K 161 [.agg #[.int .i64 a,.int .i64 b]] h Q:=
  zaf (hs:=[]) hk (Eq.mpr (by kernel_rfl) H)
theorem zk0 {K:Xs} (hk:K 140=none) (a:Option Addr) (b d:Nat) (h:AH) (Q:Value→AH→Prop) (H:
 ∃e:Int→Int→Nat→AH→Prop,(∃n,e (-1) 0 n h)∧
 ∀(f:Nat) (g:AH),∀(i:Int),∀(j:Int),e i j f g→
 ((j:Int) < ((b:Nat):Int)→zai a fun k l=>(((0:Int)≤j)∧((j:Int) < ((b:Nat):Int))∧
 (∃m o,ldN g k (l+Int.toNat j * 2) 2=some [.int .i64 m,.int .i64 o]∧
 (∀p,p=g.alloc (.cells [.int .i64 0,.int .i64 0] 90 false)→
 (2=2)∧∃q,stN p g.next 0 [.int .i64 m,.int .i64 o]=some q∧
 (∃r s,ldN q g.next 0 2=some [.int .i64 r,.int .i64 s]∧
 (Wf Tryz.prog K 161 [.agg #[.int .i64 r,.int .i64 s]] q fun t u=>
 (((t=(.bool true)∧
 (∃v,ld1 u g.next 0=some (.int .i64 v)∧
 (((v:Int)≤i→Q (.bool false) u)∧
 (¬(v:Int)≤i→∃w,ld1 u g.next 0=some (.int .i64 w)∧
 (∃x,ld1 u g.next 1=some (.int .i64 x)∧
 (∀y:Int,y=IntKind.wrap .i64 (w+x)→∀z:Int,z=IntKind.wrap .i64 (j+1)→∃aa,aa < f∧e y z aa u))))))∨(t=(.bool false)∧
 (Q (.bool false) u))))))))))∧
 (¬(j:Int) < ((b:Nat):Int)→Q (.bool true) g)):
 Wf Tryz.prog K 140 [.slice a b d] h Q:=
  zaf (hs:=[(3,[(3,.int .i64 0),(8,.int .i64 0)])]) hk (Eq.mpr (by kernel_rfl) H)
theorem zk1 {K:Xs} (hk:K 110=none) (a:Option Addr) (b d:Nat) (h:AH) (Q:Value→AH→Prop) (H:
 Wf Tryz.prog K 140 [.slice a b d] h fun e f=>
 (((e=(.bool true)∧
 (∃g:Int→Int→Nat→AH→Prop,(∃n,g 0 0 n f)∧
 ∀(i:Nat) (j:AH),∀(k:Int),∀(l:Int),g k l i j→
 ((l:Int) < ((b:Nat):Int)→zai a fun m o=>(((0:Int)≤l)∧((l:Int) < ((b:Nat):Int))∧
 (∃p q,ldN j m (o+Int.toNat l * 2) 2=some [.int .i64 p,.int .i64 q]∧
 (∀r,r=j.alloc (.cells [.int .i64 0,.int .i64 0] 90 false)→
 (2=2)∧∃s,stN r j.next 0 [.int .i64 p,.int .i64 q]=some s∧
 (∃t,ld1 s j.next 1=some (.int .i64 t)∧
 (∀u:Int,u=IntKind.wrap .i64 (k+t)→∀v:Int,v=IntKind.wrap .i64 (l+1)→∃w,w < i∧g u v w s))))))∧
 (¬(l:Int) < ((b:Nat):Int)→Q (.int .i64 k) j)))∨(e=(.bool false)∧
 (Q (.int .i64 0) f))))):
 Wf Tryz.prog K 110 [.slice a b d] h Q:=
  zaf (hs:=[(5,[(3,.int .i64 0),(11,.int .i64 0)])]) hk (Eq.mpr (by kernel_rfl) H)
theorem zmU {K:Xs} (hk:K 70=none) (a:Option Addr) (b d:Nat) (h:AH) (Q:Value→AH→Prop) (H:
 Wf Tryz.prog K 110 [.slice a b d] h fun e f=>
 (∃g,e=(.int .i64 g)∧
 (((0:Int)≤0∧(0:Int)≤g∧(g:Int)≤9223372036854775807∧(8:Int) * g≤281474976710656)∧∀j,j=f.alloc (.cells ((List.replicate (Int.toNat g) [.int .i64 0]).flatten) 3 false)→
 ∀k,k=j.alloc (.cells [.slice none 0 0] 48 false)→
 ∃l,st1 k j.next 0 (.slice (some ⟨f.next,0,none⟩) (Int.toNat 0) (Int.toNat g))=some l∧
 (Wf Tryz.prog K 111 [.slice a b d] l fun m n=>
 (∃(o:FuncId) (cap9:List Value),m=(.func (.func o) #[] cap9.toArray)∧
 (∃(p:Nat→AH→Prop) (q:AX→AH→Prop) (N12:Nat) (item13:Nat→List Value) (G16 r:AH→AH→Prop),
 (K o=none∧([10]:List Nat)=[10])∧
 (∀i,i < N12→∃s,item13 i=[.int .i64 s])∧
 (∀f,f.next=n.next+1→(∀c,c≠n.next→f.get c=n.get c)→p 0 f)∧
 (∀i f t,p i f→za9 n.next f t→p i t)∧
 (∀x f t,q x f→za9 n.next f t→q x t)∧
 (∀i f t,p i f→G16 f t→p i t)∧(∀x f t,q x f→G16 f t→q x t)∧(∀f t,G16 f t→t.get n.next=f.get n.next)∧
 (∀(u:Nat) (v:AH),u < N12→p u v→(∃L,v.get n.next=some (.loop L))→∀(w:Int),item13 u=[.int .i64 w]→
 AX.normal=AX.normal∧(v.get n.next=v.get n.next)∧∀y,za9 n.next v y→(∃L,y.get n.next=some (.loop L))→
 ∃z aa ab,ld1 y j.next 0=some (.slice z aa ab)∧
 (∀ac,ac=y.alloc (.cells [.int .i64 w] 3 false)→
 ∃ad ae af ag,zal Tryz.prog ac .append #[48,48] [.slice z aa ab,(.slice (some ⟨y.next,0,none⟩) 1 1)]=some (.slice ad ae af,ag)∧
 (∃ah,st1 ag j.next 0 (.slice ad ae af)=some ah∧
 ((ah.get n.next=y.get n.next∧p (u+1) ah∧∀l,za9 n.next ah l→r v l)))))∧
 (∀(JJ30:Nat→AH→Prop) (DD31:AH→Prop),(∀i f,JJ30 i f→p i f)→(∀i f t,JJ30 i f→G16 f t→JJ30 i t)→(∀f t,DD31 f→G16 f t→DD31 t)→
 (∀(ai:Nat) (aj:AH),ai < N12→JJ30 ai aj→Wy Tryz.prog K n.next (item13 ai) aj fun ak al=>((ak=.bool true∧JJ30 (ai+1) al)∨(ak=.bool false∧DD31 al))∧r aj al)→
 ∀am,JJ30 0 am→Wf Tryz.prog K o ([(Value.func (Fn.yield n.next) #[] #[])] ++ cap9) am fun _ an=>JJ30 N12 an∨DD31 an)∧
 (∀ao,p N12 ao→∃ap aq ar,ld1 (ao.del n.next) j.next 0=some (.slice ap aq ar)∧
 (Q (.slice ap aq ar) (ao.del n.next)))∧
 (∀(au:AX) (av:AH),au≠.normal→q au av→zg0 au []=true))))))):
 Wf Tryz.prog K 70 [.slice a b d] h Q:=
  zaf (hs:=[(3,[(10,.int .i64 0)])]) hk (Eq.mpr (by kernel_rfl) H)
theorem zoN {K:Xs} (hk:K 171=none) (a:Option Addr) (b d:Nat) (e:Option Addr) (f g:Nat) (h:AH) (Q:Value→AH→Prop) (H:
 Wf Tryz.prog K 175 [.slice a b d] h fun j k=>
 (∃l:Option Addr,j=(.pointer l)∧
 (∀m,m=k.alloc (.cells [.pointer none] 186 false)→
 ∃n,st1 m k.next 0 (.pointer l)=some n∧
 (Wf Tryz.prog K 111 [.slice e f g] n fun o p=>
 (∃(q:FuncId) (cap8:List Value),o=(.func (.func q) #[] cap8.toArray)∧
 (∃(r:Nat→AH→Prop) (s:AX→AH→Prop) (N11:Nat) (item12:Nat→List Value) (G15 t:AH→AH→Prop),
 (K q=none∧([11]:List Nat)=[11])∧
 (∀i,i < N11→∃u,item12 i=[.int .i64 u])∧
 (∀k,k.next=p.next+1→(∀c,c≠p.next→k.get c=p.get c)→r 0 k)∧
 (∀i k v,r i k→za9 p.next k v→r i v)∧
 (∀x k v,s x k→za9 p.next k v→s x v)∧
 (∀i k v,r i k→G15 k v→r i v)∧(∀x k v,s x k→G15 k v→s x v)∧(∀k v,G15 k v→v.get p.next=k.get p.next)∧
 (∀(w:Nat) (y:AH),w < N11→r w y→(∃L,y.get p.next=some (.loop L))→∀(z:Int),item12 w=[.int .i64 z]→
 AX.normal=AX.normal∧(y.get p.next=y.get p.next)∧∀aa,za9 p.next y aa→(∃L,aa.get p.next=some (.loop L))→
 ∃ab:Option Addr,ld1 aa k.next 0=some (.pointer ab)∧
 (zai ab fun ac ad=>(((0:Int)≤z)∧((z:Int) < 4096)∧
 (∃ae,st1 aa ac (ad+Int.toNat z * 1) (.bool false)=some ae∧
 ((ae.get p.next=aa.get p.next∧r (w+1) ae∧∀af,za9 p.next ae af→t y af))))))∧
 (∀(JJ24:Nat→AH→Prop) (DD25:AH→Prop),(∀i k,JJ24 i k→r i k)→(∀i k v,JJ24 i k→G15 k v→JJ24 i v)→(∀k v,DD25 k→G15 k v→DD25 v)→
 (∀(ag:Nat) (ah:AH),ag < N11→JJ24 ag ah→Wy Tryz.prog K p.next (item12 ag) ah fun ai aj=>((ai=.bool true∧JJ24 (ag+1) aj)∨(ai=.bool false∧DD25 aj))∧t ah aj)→
 ∀ak,JJ24 0 ak→Wf Tryz.prog K q ([(Value.func (Fn.yield p.next) #[] #[])] ++ cap8) ak fun _ al=>JJ24 N11 al∨DD25 al)∧
 (∀am,r N11 am→∃an:Option Addr,ld1 (am.del p.next) k.next 0=some (.pointer an)∧
 (Wf Tryz.prog K 82 [.pointer an] (am.del p.next) fun ao ap=>
 (∃aq ar au,ao=(.slice aq ar au)∧
 (Q (.slice aq ar au) ap))))∧
 (∀(av:AX) (aw:AH),av≠.normal→s av aw→zg0 av []=true))))))):
 Wf Tryz.prog K 171 [.slice a b d,.slice e f g] h Q:=
  zaf (hs:=[(3,[(11,.int .i64 0)])]) hk (Eq.mpr (by kernel_rfl) H)
theorem zmV {K:Xs} (hk:K 175=none) (a:Option Addr) (b d:Nat) (h:AH) (Q:Value→AH→Prop) (H:
 ∃e:List Value,zan Tryz.prog 139=some e∧∀f,f=h.alloc (.cells e 139 false)→
 Wf Tryz.prog K 111 [.slice a b d] f fun g j=>
 (∃(k:FuncId) (cap5:List Value),g=(.func (.func k) #[] cap5.toArray)∧
 (∃(l:Nat→AH→Prop) (m:AX→AH→Prop) (N8:Nat) (item9:Nat→List Value) (G12 n:AH→AH→Prop),
 (K k=none∧([7]:List Nat)=[7])∧
 (∀i,i < N8→∃o,item9 i=[.int .i64 o])∧
 (∀f,f.next=j.next+1→(∀c,c≠j.next→f.get c=j.get c)→l 0 f)∧
 (∀i f p,l i f→za9 j.next f p→l i p)∧
 (∀x f p,m x f→za9 j.next f p→m x p)∧
 (∀i f p,l i f→G12 f p→l i p)∧(∀x f p,m x f→G12 f p→m x p)∧(∀f p,G12 f p→p.get j.next=f.get j.next)∧
 (∀(q:Nat) (r:AH),q < N8→l q r→(∃L,r.get j.next=some (.loop L))→∀(s:Int),item9 q=[.int .i64 s]→
 AX.normal=AX.normal∧(r.get j.next=r.get j.next)∧∀t,za9 j.next r t→(∃L,t.get j.next=some (.loop L))→
 ((0:Int)≤s)∧((s:Int) < 4096)∧
 (∃u,st1 t h.next (0+Int.toNat s * 1) (.bool true)=some u∧
 ((u.get j.next=t.get j.next∧l (q+1) u∧∀v,za9 j.next u v→n r v))))∧
 (∀(JJ18:Nat→AH→Prop) (DD19:AH→Prop),(∀i f,JJ18 i f→l i f)→(∀i f p,JJ18 i f→G12 f p→JJ18 i p)→(∀f p,DD19 f→G12 f p→DD19 p)→
 (∀(w:Nat) (y:AH),w < N8→JJ18 w y→Wy Tryz.prog K j.next (item9 w) y fun z aa=>((z=.bool true∧JJ18 (w+1) aa)∨(z=.bool false∧DD19 aa))∧n y aa)→
 ∀ab,JJ18 0 ab→Wf Tryz.prog K k ([(Value.func (Fn.yield j.next) #[] #[])] ++ cap5) ab fun _ ac=>JJ18 N8 ac∨DD19 ac)∧
 (∀ad,l N8 ad→Q (.pointer (some ⟨h.next,0,none⟩)) (ad.del j.next))∧
 (∀(ae:AX) (af:AH),ae≠.normal→m ae af→zg0 ae []=true)))):
 Wf Tryz.prog K 175 [.slice a b d] h Q:=
  zaf (hs:=[(3,[(7,.int .i64 0)])]) hk (Eq.mpr (by kernel_rfl) H)
end Go.Am
