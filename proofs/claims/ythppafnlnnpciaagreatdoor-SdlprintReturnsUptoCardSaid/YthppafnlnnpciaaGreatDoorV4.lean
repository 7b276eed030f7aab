import Derived.Test.YthppafnlnnpciaaGreatDoorV1
import Derived.Test.YthppafnlnnpciaaGreatDoorV3
set_option linter.unusedVariables false
set_option linter.unusedSimpArgs false
namespace Go.Proofs.YthppafnlnnpciaaGreatDoor
structure PS where
 ts:List Tok
 vr:Bool
 nd:Nat
abbrev PR (α:Type):=Except (Nat × Int) (α × PS)
def hdT (x:PS):Tok:=x.ts.headD ⟨5,[],0⟩
def isS (x:PS) (s:List UInt8):Bool:=(hdT x).k==1&&(hdT x).s==s
def nxT (x:PS):PS:=if (hdT x).k=5 then x else { x with ts:=x.ts.drop 1 }
def takeQ (s:List UInt8) (x:PS):PR Unit:=if isS x s=true then .ok ((),nxT x) else .error ((hdT x).i,3)
def nameQ (x:PS):PR (List UInt8):=if (hdT x).k=2 then .ok ((hdT x).s,nxT x) else .error ((hdT x).i,3)
def limQ (n most:Nat) (x:PS):PR Unit:=if most<=n then .error ((hdT x).i,4) else .ok ((),x)
theorem zAM {n most:Nat} {x y:PS} {u:Unit} (h:limQ n most x = .ok (u,y)):n<most/\y=x:=by
 unfold limQ at h
 split at h
 . cases h
 . cases h;exact ⟨by omega,rfl⟩
def thenQ {α β:Type} (r:PR α) (f:α->PS->PR β):PR β:=
 match r with
 |.error e => .error e
 |.ok (a,x)=>f a x
def strD (s:List UInt8):D:=.str ⟨s.toArray⟩
def valD (k n:Int) (s:List UInt8) (items:List D) (keys:List (List UInt8)):D:=.obj [.int k,.int n,strD s,.list items,.list (keys.map strD)]
def refD (n:List UInt8) (w:List Int):D:=.obj [strD n,.list (w.map .int)]
def argD (n:List UInt8) (v:D):D:=.obj [strD n,v]
def dirD (n:List UInt8) (aa:List D):D:=.obj [strD n,.list aa]
def selD (k:Int) (al n on:List UInt8) (aa ds ss:List D):D:=.obj [.int k,strD al,strD n,strD on,.list aa,.list ds,.list ss]
def varD (n:List UInt8) (t:D) (h:Bool) (v:D):D:=.obj [strD n,t,.bool h,v]
def opD (k:Int) (n:List UInt8) (vs ss:List D):D:=.obj [.int k,strD n,.list vs,.list ss]
def fragD (n on:List UInt8) (ss:List D):D:=.obj [strD n,strD on,.list ss]
def zDt:D:=valD 0 0 [] [] []
def openQ:Nat->PS->Nat × PS
 |0,x=>(0,x)
 |f+1,x=>if isS x [91]=true then ((openQ f (nxT x)).1+1,(openQ f (nxT x)).2) else (0,x)
def closeQ:Nat->List Int->PS->PR (List Int)
 |0,w,x => .ok (if isS x [33]=true then (1::w,nxT x) else (w,x))
 |n+1,w,x=>thenQ (takeQ [93] (if isS x [33]=true then nxT x else x)) fun _ y=>closeQ n (2::(if isS x [33]=true then 1::w else w)) y
def zA7 (x:PS):PR (List UInt8 × List Int):=
 thenQ (nameQ (openQ x.ts.length x).2) fun n y=>thenQ (closeQ (openQ x.ts.length x).1 [] y) fun w z => .ok ((n,w),z)
def typQ (x:PS):PR D:=thenQ (zA7 x) fun t y=>if t.2.length>24 then .error ((hdT x).i,5) else .ok (refD t.1 t.2,y)
def numQ (l:List UInt8):Int:=match numU l with | .ok n=>n | _=>0
def zDg (s:List UInt8):D:=
 if s=[116,114,117,101] then valD 1 1 [] [] [] else if s=[102,97,108,115,101] then valD 1 0 [] [] [] else if s=[110,117,108,108] then zDt else valD 4 0 s [] []
def zCN (x:PS):Bool:=(hdT x).k==5||((hdT x).k==1 && !isS x [91] && !isS x [123] && !(x.vr&&isS x [36]))
def itemsQ (val:PS->PR D):Nat->List D->PS->PR (List D)
 |0,_,x => .error ((hdT x).i,0)
 |f+1,acc,x=>if isS x [93]=true then .ok (acc,nxT x) else thenQ (val x) fun v y=>itemsQ val f (acc++[v]) y
def zAG (val:PS->PR D):Nat->List (List UInt8)->List D->PS->PR (List (List UInt8) × List D)
 |0,_,_,x => .error ((hdT x).i,0)
 |f+1,ks,acc,x =>
  if isS x [125]=true then .ok ((ks,acc),nxT x)
  else thenQ (nameQ x) fun k y=>if ks.contains k=true then .error ((hdT x).i,7) else
   thenQ (takeQ [58] y) fun _ z=>thenQ (val z) fun v u=>zAG val f (ks++[k]) (acc++[v]) u
def valueQ:Nat->Nat->PS->PR D
 |0,_,x => .error ((hdT x).i,0)
 |f+1,lv,x =>
  if zCN x=true then .error ((hdT x).i,3)
  else if 24<lv then .error ((hdT x).i,5)
  else if 4096<=x.nd then .error ((hdT x).i,4)
  else
   let y:PS:={ nxT x with nd:=x.nd+1 }
   if (hdT x).k=3 then .ok (valD 2 (numQ (hdT x).s) [] [] [],y)
   else if (hdT x).k=4 then .ok (valD 3 0 (hdT x).s [] [],y)
   else if (hdT x).k=2 then .ok (zDg (hdT x).s,y)
   else if (hdT x).s=[36] then thenQ (nameQ y) fun n z => .ok (valD 7 0 n [] [],z)
   else if (hdT x).s=[91] then thenQ (itemsQ (valueQ f (lv+1)) (y.ts.length+1) [] y) fun l z => .ok (valD 5 0 [] l [],z)
   else thenQ (zAG (valueQ f (lv+1)) (y.ts.length+1) [] [] y) fun l z => .ok (valD 6 0 [] l.2 l.1,z)
def zAd (x:PS):PR D:=valueQ 25 1 { x with nd:=0 }
def zER:Nat->List D->PS->PR (List D)
 |0,_,x => .error ((hdT x).i,0)
 |f+1,acc,x =>
  if acc.length≠0/\isS x [41]=true then .ok (acc,nxT x)
  else if (hdT x).k=2/\16<=acc.length then .error ((hdT x).i,4)
  else thenQ (nameQ x) fun n y=>thenQ (takeQ [58] y) fun _ z=>thenQ (zAd z) fun v u=>zER f (acc++[argD n v]) u
def argsQ (x:PS):PR (List D):=if isS x [40]=true then zER x.ts.length [] (nxT x) else .ok ([],x)
def dirsF:Nat->List D->PS->PR (List D)
 |0,_,x => .error ((hdT x).i,0)
 |f+1,acc,x =>
  if isS x [64]=true then
   (if 16<=acc.length then .error ((hdT x).i,4) else thenQ (nameQ (nxT x)) fun n y=>thenQ (argsQ y) fun aa z=>dirsF f (acc++[dirD n aa]) z)
  else .ok (acc,x)
def dirsQ (x:PS):PR (List D):=dirsF (x.ts.length+1) [] x
def onT:List UInt8:=[111,110]
def selQ (sels:PS->PR (List D)) (x:PS):PR D:=
 if isS x [46,46,46]=true then
  let y:=nxT x
  if (hdT y).k=2/\(hdT y).s≠onT then thenQ (dirsQ (nxT y)) fun ds z => .ok (selD 2 [] (hdT y).s [] [] ds [],z)
  else
   thenQ (if (hdT y).k=2 then nameQ (nxT y) else .ok ([],y)) fun on z =>
    thenQ (dirsQ z) fun ds u=>thenQ (sels u) fun ss v => .ok (selD 3 [] [] on [] ds ss,v)
 else
  thenQ (nameQ x) fun n y =>
   thenQ (if isS y [58]=true then thenQ (nameQ (nxT y)) fun m z => .ok ((n,m),z) else .ok (([],n),y)) fun an z =>
    thenQ (argsQ z) fun aa u=>thenQ (dirsQ u) fun ds v =>
     thenQ (if isS v [123]=true then sels v else .ok ([],v)) fun ss o => .ok (selD 1 an.1 an.2 [] aa ds ss,o)
def setF (sel:PS->PR D):Nat->List D->PS->PR (List D)
 |0,_,x => .error ((hdT x).i,0)
 |f+1,acc,x =>
  if acc.length≠0/\isS x [125]=true then .ok (acc,nxT x)
  else if ((hdT x).k=2\/isS x [46,46,46]=true)/\64<=acc.length then .error ((hdT x).i,4)
  else thenQ (sel x) fun s y=>setF sel f (acc++[s]) y
def zGs:Nat->Nat->PS->PR (List D)
 |0,_,x => .error ((hdT x).i,0)
 |f+1,lv,x =>
  if isS x [123]=true/\24<lv then .error ((hdT x).i,5)
  else thenQ (takeQ [123] x) fun _ y=>setF (selQ (zGs f (lv+1))) (y.ts.length+1) [] y
def setQ (x:PS):PR (List D):=zGs 25 1 x
def varsF:Nat->List D->PS->PR (List D)
 |0,_,x => .error ((hdT x).i,0)
 |f+1,acc,x =>
  if acc.length≠0/\isS x [41]=true then .ok (acc,nxT x)
  else if isS x [36]=true/\16<=acc.length then .error ((hdT x).i,4)
  else thenQ (takeQ [36] x) fun _ y=>thenQ (nameQ y) fun n z=>thenQ (takeQ [58] z) fun _ u=>thenQ (typQ u) fun t v =>
   thenQ (if isS v [61]=true then thenQ (zAd { nxT v with vr:=false }) fun d o => .ok ((true,d),{ o with vr:=true }) else .ok ((false,zDt),v)) fun d o =>
    varsF f (acc++[varD n t d.1 d.2]) o
def opQ (k:Int) (x:PS):PR D:=
 thenQ (if (hdT x).k=2 then .ok ((hdT x).s,nxT x) else .ok ([],x)) fun n y =>
  thenQ (if isS y [40]=true then varsF y.ts.length [] (nxT y) else .ok ([],y)) fun vs z =>
   thenQ (setQ z) fun ss u => .ok (opD k n vs ss,u)
def fragQ (x:PS):PR D:=
 if (hdT x).s=onT then .error ((hdT x).i,3)
 else thenQ (nameQ x) fun n y=>if (hdT y).k=2/\(hdT y).s=onT then
  thenQ (nameQ (nxT y)) fun on z=>thenQ (setQ z) fun ss u => .ok (fragD n on ss,u)
  else .error ((hdT y).i,3)
def sInD (n:List UInt8) (t:D) (h:Bool) (v:D) (ds:List D):D:=.obj [strD n,t,.bool h,v,.list ds]
def sFdD (n:List UInt8) (aa:List D) (t:D) (ds:List D):D:=.obj [strD n,.list aa,t,.list ds]
def sMbD (n:List UInt8) (ds:List D):D:=.obj [strD n,.list ds]
def sDfD (k:Int) (n:List UInt8) (im ds fs ms ins:List D):D:=.obj [.int k,strD n,.list im,.list ds,.list fs,.list ms,.list ins]
def zEC (l:List D):D:=.obj [.list l]
def manyF (el:PS->PR D) (e:List UInt8) (most:Nat):Nat->List D->PS->PR (List D)
 |0,_,x => .error ((hdT x).i,0)
 |f+1,acc,x =>
  if acc.length≠0/\isS x e=true then .ok (acc,nxT x)
  else if (hdT x).k=2/\most<=acc.length then .error ((hdT x).i,4)
  else thenQ (el x) fun a y=>manyF el e most f (acc++[a]) y
def argQ (x:PS):PR D:=thenQ (nameQ x) fun n y=>thenQ (takeQ [58] y) fun _ z=>thenQ (zAd z) fun v u => .ok (argD n v,u)
theorem zDR {α β γ:Type} (r:PR α) (f:α->PS->PR β) (g:β->PS->PR γ):thenQ (thenQ r f) g=thenQ r fun a x=>thenQ (f a x) g:=by
 cases r<;>rfl
theorem zDb : ∀ (f:Nat) (acc:List D) (x:PS),zER f acc x=manyF argQ [41] 16 f acc x
 |0,_,_=>rfl
 |f+1,acc,x=>by
  unfold zER manyF argQ
  split
  . rfl
  split
  . rfl
  . simp only [zDR]
    congr 1;funext n y;congr 1;funext _ z;congr 1;funext v u
    exact zDb f _ _
def inQ (x:PS):PR D:=
 thenQ (nameQ x) fun n y=>thenQ (takeQ [58] y) fun _ z=>thenQ (typQ z) fun t u =>
  thenQ (if isS u [61]=true then thenQ (zAd (nxT u)) fun d o => .ok ((true,d),o) else .ok ((false,zDt),u)) fun d v =>
   thenQ (dirsQ v) fun ds w => .ok (sInD n t d.1 d.2 ds,w)
def insQ (e:List UInt8) (x:PS):PR (List D):=manyF inQ e 16 (x.ts.length+1) [] x
def fdQ (x:PS):PR D:=
 thenQ (nameQ x) fun n y=>thenQ (if isS y [40]=true then insQ [41] (nxT y) else .ok ([],y)) fun aa z =>
  thenQ (takeQ [58] z) fun _ u=>thenQ (typQ u) fun t v=>thenQ (dirsQ v) fun ds w => .ok (sFdD n aa t ds,w)
def mbQ (x:PS):PR D:=thenQ (nameQ x) fun n y=>thenQ (dirsQ y) fun ds z => .ok (sMbD n ds,z)
def fdsQ (x:PS):PR (List D):=manyF fdQ [125] 64 (x.ts.length+1) [] x
def mbsQ (x:PS):PR (List D):=manyF mbQ [125] 64 (x.ts.length+1) [] x
def namesF (s:List UInt8):Nat->List D->PS->PR (List D)
 |0,_,x => .error ((hdT x).i,0)
 |f+1,acc,x =>
  if (hdT x).k=2/\64<=acc.length then .error ((hdT x).i,4)
  else thenQ (nameQ x) fun n y=>if isS y s=true then namesF s f (acc++[strD n]) (nxT y) else .ok (acc++[strD n],y)
def zBl (s:List UInt8) (x:PS):PR (List D):=namesF s (x.ts.length+1) [] x
def zFu:List UInt8:=[105,109,112,108,101,109,101,110,116,115]
def zHg:List UInt8:=[116,121,112,101]
def zFS:List UInt8:=[105,110,116,101,114,102,97,99,101]
def zF3:List UInt8:=[117,110,105,111,110]
def enumT:List UInt8:=[101,110,117,109]
def zKR:List UInt8:=[105,110,112,117,116]
def zBG (s:List UInt8):Int:=if s=zHg then 1 else if s=zFS then 2 else if s=zF3 then 3 else if s=enumT then 4 else if s=zKR then 5 else 0
def zBT (k:Int) (x:PS):PR (List D):=if k=1/\(hdT x).k=2/\(hdT x).s=zFu then zBl [38] (nxT x) else .ok ([],x)
def mbOf (d:D):D:=.obj [d,.list []]
def bodyQ (k:Int) (x:PS):PR (List D × List D × List D):=
 if k=3 then thenQ (takeQ [61] x) fun _ y=>thenQ (zBl [124] y) fun l z => .ok (([],l.map mbOf,[]),z)
 else thenQ (takeQ [123] x) fun _ y =>
  if k=5 then thenQ (insQ [125] y) fun l z => .ok (([],[],l),z)
  else if k=4 then thenQ (mbsQ y) fun l z => .ok (([],l,[]),z)
  else thenQ (fdsQ y) fun l z => .ok ((l,[],[]),z)
def sdefQ (k:Int) (x:PS):PR D:=
 thenQ (nameQ x) fun n y=>thenQ (zBT k y) fun im z=>thenQ (dirsQ z) fun ds u=>thenQ (bodyQ k u) fun b v =>
  .ok (sDfD k n im ds b.1 b.2.1 b.2.2,v)
def sdocF:Nat->List D->PS->PR (List D)
 |0,_,x => .error ((hdT x).i,0)
 |f+1,acc,x =>
  if acc.length≠0/\(hdT x).k=5 then .ok (acc,x)
  else if ¬ ((hdT x).k=2/\0<zBG (hdT x).s) then .error ((hdT x).i,3)
  else if 64<=acc.length then .error ((hdT x).i,4)
  else thenQ (sdefQ (zBG (hdT x).s) (nxT x)) fun d y=>sdocF f (acc++[d]) y
def sdocQ (ts:List Tok):PR (List D):=sdocF (ts.length+1) [] ⟨ts,false,0⟩
def parseD (l:List UInt8):Except (Nat × Int) D:=
 match scanT l with
 |.error e => .error e
 |.ok ts=>match sdocQ ts with
  |.error e => .error e
  |.ok (q,_) => .ok (zEC q)
theorem kindS_le (s:List UInt8):0<=zBG s/\zBG s<=5:=by
 unfold zBG
 repeat' split
 all_goals decide
end Go.Proofs.YthppafnlnnpciaaGreatDoor
