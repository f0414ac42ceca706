/- Part of a proof. -/
import Derived.Test.YtfdcjngclelnhaaXS
set_option linter.unusedSectionVars false
set_option linter.unusedSimpArgs false
set_option linter.unusedVariables false
namespace Go.Proofs.Ytfdcjngclelnhaa
open Go Go.RowKit
set_option maxRecDepth 100000
set_option maxHeartbeats 4000000
noncomputable section
inductive t_mark_V where
  | en (s0:B47)
  | eo (s0:B47) (es0:List D) (w0:Nat)
  | l0 (y0:Int) (y1:Int) (y2:List UInt8) (y3:List UInt8) (y4:Nat)
  | l1 (y0:Int) (y1:List UInt8) (y2:List UInt8) (y3:Nat)
  | l2 (y0:Int) (y1:Int) (y2:List UInt8) (y3:List UInt8) (y4:Nat) (y5:List D) (y6:Nat)
  | l3 (y0:Int) (y1:List UInt8) (y2:List UInt8) (y3:Nat) (y4:List D) (y5:Nat)
def t_mark_at:t_mark_V → Pth × List AV × Heap
  | .en s0=>([],startT Try.f41 [.ptr (some (0,0))],[some (.cells 47 [.dat (.str (s0).c0),.dat (.int .i64 (s0).c1),.dat .nils] s0.ver)])
  | .eo s0 es0 w0=>([],startT Try.f41 [.ptr (some (0,0))],[some (.cells 47 [.dat (.str (s0).c0),.dat (.int .i64 (s0).c1),.own (.at 0 2 w0 34) es0] s0.ver)])
  | .l0 y0 y1 y2 y3 y4=>([1,1,1,1],mkT 71 [(0,.ptr (some (0,0))),(3,.dat (.int .i64 y0)),(4,.dat (.int .i64 y1)),(5,.dat (.str y2))],[some (.cells 47 [.dat (.str y3),.dat (.int .i64 y0),.dat .nils] y4)])
  | .l1 y0 y1 y2 y3=>([1,0,0,0,1,0,1,1,1],mkT 71 [(0,.ptr (some (0,0))),(3,.dat (.int .i64 y0)),(5,.dat (.str y1))],[some (.cells 47 [.dat (.str y2),.dat (.int .i64 y0),.dat .nils] y3)])
  | .l2 y0 y1 y2 y3 y4 y5 y6=>([1,1,1,1],mkT 71 [(0,.ptr (some (0,0))),(3,.dat (.int .i64 y0)),(4,.dat (.int .i64 y1)),(5,.dat (.str y2))],[some (.cells 47 [.dat (.str y3),.dat (.int .i64 y0),.own (.at 0 2 y4 34) y5] y6)])
  | .l3 y0 y1 y2 y3 y4 y5=>([1,0,0,0,1,0,1,1,1],mkT 71 [(0,.ptr (some (0,0))),(3,.dat (.int .i64 y0)),(5,.dat (.str y1))],[some (.cells 47 [.dat (.str y2),.dat (.int .i64 y0),.own (.at 0 2 y3 34) y4] y5)])
def t_mark_st (S:Fns) (r:Int × B47 → Prop) (l:t_mark_V → Prop):t_mark_V → Prop
  | .en s0=>an (decide (0 ≤ s0.c1) && decide (s0.c1 ≤ Int.ofNat s0.c0.length)) (bn ((List.take (s0.c0.length - s0.c1.toNat) (List.drop s0.c1.toNat s0.c0))[0]?) fun x16=>cnd (Int.ofNat x16.toNat == 124) (bn (S.g_HasPrefix (List.take (s0.c0.length - s0.c1.toNat) (List.drop s0.c1.toNat s0.c0)) [124,124]) fun x17=>cnd x17 (l (.l0 s0.c1 2 (List.take (s0.c0.length - s0.c1.toNat) (List.drop s0.c1.toNat s0.c0)) s0.c0 s0.ver)) (l (.l0 s0.c1 0 (List.take (s0.c0.length - s0.c1.toNat) (List.drop s0.c1.toNat s0.c0)) s0.c0 s0.ver))) (cnd (Int.ofNat x16.toNat == 60) (bn (S.g_HasPrefix (List.take (s0.c0.length - s0.c1.toNat) (List.drop s0.c1.toNat s0.c0)) [60,62]) fun x18=>cnd x18 (l (.l0 s0.c1 2 (List.take (s0.c0.length - s0.c1.toNat) (List.drop s0.c1.toNat s0.c0)) s0.c0 s0.ver)) (l (.l1 s0.c1 (List.take (s0.c0.length - s0.c1.toNat) (List.drop s0.c1.toNat s0.c0)) s0.c0 s0.ver))) (cnd (Int.ofNat x16.toNat == 62) (l (.l1 s0.c1 (List.take (s0.c0.length - s0.c1.toNat) (List.drop s0.c1.toNat s0.c0)) s0.c0 s0.ver)) (cnd (Int.ofNat x16.toNat == 40) (l (.l0 s0.c1 1 (List.take (s0.c0.length - s0.c1.toNat) (List.drop s0.c1.toNat s0.c0)) s0.c0 s0.ver)) (cnd (Int.ofNat x16.toNat == 41) (l (.l0 s0.c1 1 (List.take (s0.c0.length - s0.c1.toNat) (List.drop s0.c1.toNat s0.c0)) s0.c0 s0.ver)) (cnd (Int.ofNat x16.toNat == 44) (l (.l0 s0.c1 1 (List.take (s0.c0.length - s0.c1.toNat) (List.drop s0.c1.toNat s0.c0)) s0.c0 s0.ver)) (cnd (Int.ofNat x16.toNat == 59) (l (.l0 s0.c1 1 (List.take (s0.c0.length - s0.c1.toNat) (List.drop s0.c1.toNat s0.c0)) s0.c0 s0.ver)) (cnd (Int.ofNat x16.toNat == 46) (l (.l0 s0.c1 1 (List.take (s0.c0.length - s0.c1.toNat) (List.drop s0.c1.toNat s0.c0)) s0.c0 s0.ver)) (cnd (Int.ofNat x16.toNat == 42) (l (.l0 s0.c1 1 (List.take (s0.c0.length - s0.c1.toNat) (List.drop s0.c1.toNat s0.c0)) s0.c0 s0.ver)) (cnd (Int.ofNat x16.toNat == 43) (l (.l0 s0.c1 1 (List.take (s0.c0.length - s0.c1.toNat) (List.drop s0.c1.toNat s0.c0)) s0.c0 s0.ver)) (cnd (Int.ofNat x16.toNat == 45) (l (.l0 s0.c1 1 (List.take (s0.c0.length - s0.c1.toNat) (List.drop s0.c1.toNat s0.c0)) s0.c0 s0.ver)) (cnd (Int.ofNat x16.toNat == 47) (l (.l0 s0.c1 1 (List.take (s0.c0.length - s0.c1.toNat) (List.drop s0.c1.toNat s0.c0)) s0.c0 s0.ver)) (cnd (Int.ofNat x16.toNat == 37) (l (.l0 s0.c1 1 (List.take (s0.c0.length - s0.c1.toNat) (List.drop s0.c1.toNat s0.c0)) s0.c0 s0.ver)) (cnd (Int.ofNat x16.toNat == 61) (l (.l0 s0.c1 1 (List.take (s0.c0.length - s0.c1.toNat) (List.drop s0.c1.toNat s0.c0)) s0.c0 s0.ver)) (cnd (Int.ofNat x16.toNat == 123) (l (.l0 s0.c1 1 (List.take (s0.c0.length - s0.c1.toNat) (List.drop s0.c1.toNat s0.c0)) s0.c0 s0.ver)) (cnd (Int.ofNat x16.toNat == 125) (l (.l0 s0.c1 1 (List.take (s0.c0.length - s0.c1.toNat) (List.drop s0.c1.toNat s0.c0)) s0.c0 s0.ver)) (cnd (Int.ofNat x16.toNat == 58) (l (.l0 s0.c1 1 (List.take (s0.c0.length - s0.c1.toNat) (List.drop s0.c1.toNat s0.c0)) s0.c0 s0.ver)) (l (.l0 s0.c1 0 (List.take (s0.c0.length - s0.c1.toNat) (List.drop s0.c1.toNat s0.c0)) s0.c0 s0.ver)))))))))))))))))))
  | .eo s0 es0 w0=>an (decide (0 ≤ s0.c1) && decide (s0.c1 ≤ Int.ofNat s0.c0.length)) (bn ((List.take (s0.c0.length - s0.c1.toNat) (List.drop s0.c1.toNat s0.c0))[0]?) fun x19=>cnd (Int.ofNat x19.toNat == 124) (bn (S.g_HasPrefix (List.take (s0.c0.length - s0.c1.toNat) (List.drop s0.c1.toNat s0.c0)) [124,124]) fun x20=>cnd x20 (l (.l2 s0.c1 2 (List.take (s0.c0.length - s0.c1.toNat) (List.drop s0.c1.toNat s0.c0)) s0.c0 w0 es0 s0.ver)) (l (.l2 s0.c1 0 (List.take (s0.c0.length - s0.c1.toNat) (List.drop s0.c1.toNat s0.c0)) s0.c0 w0 es0 s0.ver))) (cnd (Int.ofNat x19.toNat == 60) (bn (S.g_HasPrefix (List.take (s0.c0.length - s0.c1.toNat) (List.drop s0.c1.toNat s0.c0)) [60,62]) fun x21=>cnd x21 (l (.l2 s0.c1 2 (List.take (s0.c0.length - s0.c1.toNat) (List.drop s0.c1.toNat s0.c0)) s0.c0 w0 es0 s0.ver)) (l (.l3 s0.c1 (List.take (s0.c0.length - s0.c1.toNat) (List.drop s0.c1.toNat s0.c0)) s0.c0 w0 es0 s0.ver))) (cnd (Int.ofNat x19.toNat == 62) (l (.l3 s0.c1 (List.take (s0.c0.length - s0.c1.toNat) (List.drop s0.c1.toNat s0.c0)) s0.c0 w0 es0 s0.ver)) (cnd (Int.ofNat x19.toNat == 40) (l (.l2 s0.c1 1 (List.take (s0.c0.length - s0.c1.toNat) (List.drop s0.c1.toNat s0.c0)) s0.c0 w0 es0 s0.ver)) (cnd (Int.ofNat x19.toNat == 41) (l (.l2 s0.c1 1 (List.take (s0.c0.length - s0.c1.toNat) (List.drop s0.c1.toNat s0.c0)) s0.c0 w0 es0 s0.ver)) (cnd (Int.ofNat x19.toNat == 44) (l (.l2 s0.c1 1 (List.take (s0.c0.length - s0.c1.toNat) (List.drop s0.c1.toNat s0.c0)) s0.c0 w0 es0 s0.ver)) (cnd (Int.ofNat x19.toNat == 59) (l (.l2 s0.c1 1 (List.take (s0.c0.length - s0.c1.toNat) (List.drop s0.c1.toNat s0.c0)) s0.c0 w0 es0 s0.ver)) (cnd (Int.ofNat x19.toNat == 46) (l (.l2 s0.c1 1 (List.take (s0.c0.length - s0.c1.toNat) (List.drop s0.c1.toNat s0.c0)) s0.c0 w0 es0 s0.ver)) (cnd (Int.ofNat x19.toNat == 42) (l (.l2 s0.c1 1 (List.take (s0.c0.length - s0.c1.toNat) (List.drop s0.c1.toNat s0.c0)) s0.c0 w0 es0 s0.ver)) (cnd (Int.ofNat x19.toNat == 43) (l (.l2 s0.c1 1 (List.take (s0.c0.length - s0.c1.toNat) (List.drop s0.c1.toNat s0.c0)) s0.c0 w0 es0 s0.ver)) (cnd (Int.ofNat x19.toNat == 45) (l (.l2 s0.c1 1 (List.take (s0.c0.length - s0.c1.toNat) (List.drop s0.c1.toNat s0.c0)) s0.c0 w0 es0 s0.ver)) (cnd (Int.ofNat x19.toNat == 47) (l (.l2 s0.c1 1 (List.take (s0.c0.length - s0.c1.toNat) (List.drop s0.c1.toNat s0.c0)) s0.c0 w0 es0 s0.ver)) (cnd (Int.ofNat x19.toNat == 37) (l (.l2 s0.c1 1 (List.take (s0.c0.length - s0.c1.toNat) (List.drop s0.c1.toNat s0.c0)) s0.c0 w0 es0 s0.ver)) (cnd (Int.ofNat x19.toNat == 61) (l (.l2 s0.c1 1 (List.take (s0.c0.length - s0.c1.toNat) (List.drop s0.c1.toNat s0.c0)) s0.c0 w0 es0 s0.ver)) (cnd (Int.ofNat x19.toNat == 123) (l (.l2 s0.c1 1 (List.take (s0.c0.length - s0.c1.toNat) (List.drop s0.c1.toNat s0.c0)) s0.c0 w0 es0 s0.ver)) (cnd (Int.ofNat x19.toNat == 125) (l (.l2 s0.c1 1 (List.take (s0.c0.length - s0.c1.toNat) (List.drop s0.c1.toNat s0.c0)) s0.c0 w0 es0 s0.ver)) (cnd (Int.ofNat x19.toNat == 58) (l (.l2 s0.c1 1 (List.take (s0.c0.length - s0.c1.toNat) (List.drop s0.c1.toNat s0.c0)) s0.c0 w0 es0 s0.ver)) (l (.l2 s0.c1 0 (List.take (s0.c0.length - s0.c1.toNat) (List.drop s0.c1.toNat s0.c0)) s0.c0 w0 es0 s0.ver)))))))))))))))))))
  | .l0 y0 y1 y2 y3 y4=>cnd (y1 == 0) (bn (S.t_form (B47.mk y3 y0 GC.n y4) y0) fun x22=>gcas x22.2.c2 (r (x22.1,(⟨x22.2.c0,x22.2.c1,.n,x22.2.ver⟩:B47))) False fun x23 w23=>r (x22.1,(⟨x22.2.c0,x22.2.c1,(.o x23 w23),x22.2.ver⟩:B47))) (an (decide (0 ≤ y1) && decide (y1 ≤ Int.ofNat y2.length)) (bn (S.t_put (B47.mk y3 (IntKind.i64.wrap (y0 + y1)) GC.n (y4 + 1)) (.agg [.int .i64 4,.str (List.take (y1.toNat - 0) (List.drop 0 y2)),.int .i64 0,.int .i64 y0])) fun x24=>gcas x24.2.c2 (r (x24.1,(⟨x24.2.c0,x24.2.c1,.n,x24.2.ver⟩:B47))) False fun x25 w25=>r (x24.1,(⟨x24.2.c0,x24.2.c1,(.o x25 w25),x24.2.ver⟩:B47))))
  | .l1 y0 y1 y2 y3=>cnd (decide (Int.ofNat y1.length > 1)) (bn (y1[1]?) fun x26=>cnd (Int.ofNat x26.toNat == 61) (l (.l0 y0 2 y1 y2 y3)) (l (.l0 y0 1 y1 y2 y3))) (l (.l0 y0 1 y1 y2 y3))
  | .l2 y0 y1 y2 y3 y4 y5 y6=>cnd (y1 == 0) (bn (S.t_form (B47.mk y3 y0 (GC.o y5 y4) y6) y0) fun x27=>gcas x27.2.c2 (r (x27.1,(⟨x27.2.c0,x27.2.c1,.n,x27.2.ver⟩:B47))) False fun x28 w28=>r (x27.1,(⟨x27.2.c0,x27.2.c1,(.o x28 w28),x27.2.ver⟩:B47))) (an (decide (0 ≤ y1) && decide (y1 ≤ Int.ofNat y2.length)) (bn (S.t_put (B47.mk y3 (IntKind.i64.wrap (y0 + y1)) (GC.o y5 y4) (y6 + 1)) (.agg [.int .i64 4,.str (List.take (y1.toNat - 0) (List.drop 0 y2)),.int .i64 0,.int .i64 y0])) fun x29=>gcas x29.2.c2 (r (x29.1,(⟨x29.2.c0,x29.2.c1,.n,x29.2.ver⟩:B47))) False fun x30 w30=>r (x29.1,(⟨x29.2.c0,x29.2.c1,(.o x30 w30),x29.2.ver⟩:B47))))
  | .l3 y0 y1 y2 y3 y4 y5=>cnd (decide (Int.ofNat y1.length > 1)) (bn (y1[1]?) fun x31=>cnd (Int.ofNat x31.toNat == 61) (l (.l2 y0 2 y1 y2 y3 y4 y5)) (l (.l2 y0 1 y1 y2 y3 y4 y5))) (l (.l2 y0 1 y1 y2 y3 y4 y5))
theorem t_mark_k (S:Fns):KOk Try.prog [true] 41 Try.f41 (enAll S) [([1,1,1,1],[(1,2),(6,65)],false),([1,0,0,0,1,0,1,1,1],[(1,2),(4,1),(6,65)],false)] 1 t_mark_at enc22 (t_mark_st S):=by intro K g v; cases v <;> kernel_rfl
theorem t_mark_m {S:Fns}:Mono (t_mark_st S):=fun _ _ _ hl v=>by cases v <;> (dsimp only [t_mark_st]; repeat' first | exact id | exact hl _ | apply imp_an | apply imp_cnd | (refine imp_bn fun _=>?_) | apply imp_fl | (refine imp_gcas ?_ ?_ fun _ _=>?_))
def t_mark_raw (S:Fns) (n:Nat) (s0:B47):Option (Int × B47):=gcas s0.c2 (rawN enc22 (t_mark_st S) n (.en s0)) (none) fun es0 w0=>rawN enc22 (t_mark_st S) n (.eo s0 es0 w0)
theorem t_mark_ok {S:Fns} (hS:FnsOk S) (n:Nat):EntryOk Try.prog (e22 41 (t_mark_raw S n)):=e22_ok fun ⟨_,_,g0,_⟩ r hr=>by
  rcases g0 with _ | _ | ⟨_,_⟩
  · exact gen_e prog_ok Try.func41 rfl hS (t_mark_k S) t_mark_m rfl rfl hr
  · exact nomatch (show (none:Option (Int × B47)) = some r from hr)
  · exact gen_e prog_ok Try.func41 rfl hS (t_mark_k S) t_mark_m rfl rfl hr
inductive t_Word_V where
  | e (a0:List UInt8)
def t_Word_at:t_Word_V → Pth × List AV × Heap
  | .e a0=>([],startT Try.f11 [.dat (.str a0)],[])
def t_Word_st (S:Fns) (r:Bool → Prop) (l:t_Word_V → Prop):t_Word_V → Prop
  | .e a0=>cnd (a0 == [97,108,108]) (r true) (cnd (a0 == [97,110,100]) (r true) (cnd (a0 == [97,115]) (r true) (cnd (a0 == [98,101,103,105,110]) (r true) (cnd (a0 == [98,101,103,105,110,115]) (r true) (cnd (a0 == [98,101,116,119,101,101,110]) (r true) (cnd (a0 == [98,121]) (r true) (cnd (a0 == [99,97,108,108]) (r true) (cnd (a0 == [99,97,115,101]) (r true) (cnd (a0 == [99,97,116,99,104]) (r true) (cnd (a0 == [99,111,109,109,105,116]) (r true) (cnd (a0 == [100,101,108,101,116,101]) (r true) (cnd (a0 == [100,101,115,99]) (r true) (cnd (a0 == [100,105,115,116,105,110,99,116]) (r true) (cnd (a0 == [101,108,115,101]) (r true) (cnd (a0 == [101,110,100]) (r true) (cnd (a0 == [101,120,99,101,112,116]) (r true) (cnd (a0 == [101,120,105,115,116,115]) (r true) (cnd (a0 == [102,111,114]) (r true) (cnd (a0 == [102,114,111,109]) (r true) (cnd (a0 == [103,114,111,117,112]) (r true) (cnd (a0 == [104,97,118,105,110,103]) (r true) (cnd (a0 == [104,105,100,101]) (r true) (cnd (a0 == [105,102]) (r true) (cnd (a0 == [105,110]) (r true) (cnd (a0 == [105,110,112,117,116]) (r true) (cnd (a0 == [105,110,115,101,114,116]) (r true) (cnd (a0 == [105,110,116]) (r true) (cnd (a0 == [105,110,116,111]) (r true) (cnd (a0 == [105,110,116,101,114,115,101,99,116]) (r true) (cnd (a0 == [105,115]) (r true) (cnd (a0 == [106,111,105,110]) (r true) (cnd (a0 == [107,101,121]) (r true) (cnd (a0 == [108,101,102,116]) (r true) (cnd (a0 == [108,101,118,101,108]) (r true) (cnd (a0 == [108,101,118,101,108,115]) (r true) (cnd (a0 == [108,105,109,105,116]) (r true) (cnd (a0 == [110,111,116]) (r true) (cnd (a0 == [110,117,108,108]) (r true) (cnd (a0 == [111,110]) (r true) (cnd (a0 == [111,114]) (r true) (cnd (a0 == [111,114,100,101,114]) (r true) (cnd (a0 == [112,114,105,110,99,105,112,97,108]) (r true) (cnd (a0 == [112,114,105,110,116]) (r true) (cnd (a0 == [112,114,111,99]) (r true) (cnd (a0 == [114,97,105,115,101]) (r true) (cnd (a0 == [114,111,108,108,98,97,99,107]) (r true) (cnd (a0 == [114,111,119,115]) (r true) (cnd (a0 == [115,101,108,101,99,116]) (r true) (cnd (a0 == [115,101,116]) (r true) (cnd (a0 == [116,97,98,108,101]) (r true) (cnd (a0 == [116,101,120,116]) (r true) (cnd (a0 == [116,104,101,110]) (r true) (cnd (a0 == [116,114,117,101]) (r true) (cnd (a0 == [116,114,121]) (r true) (cnd (a0 == [102,97,108,115,101]) (r true) (cnd (a0 == [98,111,111,108]) (r true) (cnd (a0 == [117,110,105,111,110]) (r true) (cnd (a0 == [117,112,100,97,116,101]) (r true) (cnd (a0 == [118,97,108,117,101,115]) (r true) (cnd (a0 == [118,97,114]) (r true) (cnd (a0 == [118,105,115,105,98,108,101]) (r true) (cnd (a0 == [119,104,101,110]) (r true) (cnd (a0 == [119,104,101,114,101]) (r true) (cnd (a0 == [119,104,105,108,101]) (r true) (cnd (a0 == [99,104,97,110,110,101,108]) (r true) (cnd (a0 == [115,107,105,112]) (r true) (r false)))))))))))))))))))))))))))))))))))))))))))))))))))))))))))))))))))
theorem t_Word_k (S:Fns):KOk Try.prog [] 11 Try.f11 (enAll S) [] 0 t_Word_at enc10 (t_Word_st S):=by intro K g v; cases v <;> kernel_rfl
def t_Word_raw (S:Fns) (n:Nat) (a0:List UInt8):Option (Bool):=rawN enc10 (t_Word_st S) n (.e a0)
theorem t_Word_ok {S:Fns} (hS:FnsOk S) (n:Nat):EntryOk Try.prog (e10 11 (t_Word_raw S n)):=e10_ok fun _ _ hr=>gen_e prog_ok Try.func11 rfl hS (t_Word_k S) (fun _ _ _ _ v=>by cases v <;> exact id) rfl rfl hr
inductive s_source_V where
  | e (s0:B82)
  | l0 (y0:B82) (y1:D)
  | l1 (y0:B82) (y1:Int) (y2:List D) (y3:List D) (y4:Nat)
def s_source_at:s_source_V → Pth × List AV × Heap
  | .e s0=>([],startT Try.f87 [.ptr (some (0,0))],[b82 s0 0])
  | .l0 y0 y1=>([0,0,1,1],mkT 36 [(0,.ptr (some (0,0))),(2,.ptr (some (1,0))),(3,.ptr (some (2,0)))],[some (o82 y0 0),some (.cells 65 [.dat (.int .i64 0),.dat (.str []),.dat (.bool false),.dat (.str []),.dat .nils,.dat .nils,.dat .nils] 0),some (sbx 65 y1 7)])
  | .l1 y0 y1 y2 y3 y4=>([0,0,1,1],mkT 36 [(0,.ptr (some (0,0))),(2,.ptr (some (1,0))),(3,.ptr (some (2,0)))],[some (o82 y0 0),some (.cells 65 [.dat (.int .i64 0),.dat (.str []),.dat (.bool false),.dat (.str []),.dat .nils,.dat .nils,.dat .nils] 0),some (.cells 65 [.dat (.int .i64 y1),.dat (.str []),.dat (.bool false),.dat (.str []),.dat .nils,.own .full y2,.own .full y3] y4)])
def s_source_st (S:Fns) (r:D × B82 → Prop) (l:s_source_V → Prop):s_source_V → Prop
  | .e s0=>bn (S.s_single s0) fun x28=>an (okG 65 x28.1) (fl x28.1 [4,5,6] (l (.l0 x28.2 x28.1)))
  | .l0 y0 y1=>cnd (y0.c4 == 0) (bn (S.s_word y0 [108,101,102,116]) fun x29=>cnd x29.1 (bn (S.s_must x29.2 [106,111,105,110]) fun x30=>bn (S.s_single x30) fun x31=>an (okG 65 x31.1) (fl x31.1 [4,5,6] (bn (S.s_must x31.2 [111,110]) fun x32=>bn (S.s_expr x32) fun x33=>an (okG 38 x33.1) (l (.l1 x33.2 4 [G 65 y1,G 65 x31.1] [G 38 x33.1] 14))))) (bn (S.s_word x29.2 [106,111,105,110]) fun x34=>cnd x34.1 (bn (S.s_single x34.2) fun x35=>an (okG 65 x35.1) (fl x35.1 [4,5,6] (bn (S.s_must x35.2 [111,110]) fun x36=>bn (S.s_expr x36) fun x37=>an (okG 38 x37.1) (l (.l1 x37.2 3 [G 65 y1,G 65 x35.1] [G 38 x37.1] 14))))) (fl y1 [4,5,6] (r ((G 65 y1),x34.2))))) (fl y1 [4,5,6] (r ((G 65 y1),y0)))
  | .l1 y0 y1 y2 y3 y4=>cnd (y0.c4 == 0) (bn (S.s_word y0 [108,101,102,116]) fun x38=>cnd x38.1 (bn (S.s_must x38.2 [106,111,105,110]) fun x39=>bn (S.s_single x39) fun x40=>an (okG 65 x40.1) (fl x40.1 [4,5,6] (bn (S.s_must x40.2 [111,110]) fun x41=>bn (S.s_expr x41) fun x42=>an (okG 38 x42.1) (l (.l1 x42.2 4 [.agg [.int .i64 y1,.str [],.bool false,.str [],.nils,D.slice y2,D.slice y3],G 65 x40.1] [G 38 x42.1] (y4 + 7)))))) (bn (S.s_word x38.2 [106,111,105,110]) fun x43=>cnd x43.1 (bn (S.s_single x43.2) fun x44=>an (okG 65 x44.1) (fl x44.1 [4,5,6] (bn (S.s_must x44.2 [111,110]) fun x45=>bn (S.s_expr x45) fun x46=>an (okG 38 x46.1) (l (.l1 x46.2 3 [.agg [.int .i64 y1,.str [],.bool false,.str [],.nils,D.slice y2,D.slice y3],G 65 x44.1] [G 38 x46.1] (y4 + 7)))))) (r ((.agg [.int .i64 y1,.str [],.bool false,.str [],.nils,D.slice y2,D.slice y3]),x43.2)))) (r ((.agg [.int .i64 y1,.str [],.bool false,.str [],.nils,D.slice y2,D.slice y3]),y0))
theorem s_source_k (S:Fns):KOk Try.prog [] 87 Try.f87 (enAll S) [([0,0,1,1],[(1,1),(4,32)],false)] 1 s_source_at enc0 (s_source_st S):=by intro K g v; cases v <;> kernel_rfl
theorem s_source_m {S:Fns}:Mono (s_source_st S):=fun _ _ _ hl v=>by cases v <;> (dsimp only [s_source_st]; repeat' first | exact id | exact hl _ | apply imp_an | apply imp_cnd | (refine imp_bn fun _=>?_) | apply imp_fl | (refine imp_gcas ?_ ?_ fun _ _=>?_))
def s_source_raw (S:Fns) (n:Nat) (s0:B82):Option (D × B82):=rawN enc0 (s_source_st S) n (.e s0)
theorem s_source_ok {S:Fns} (hS:FnsOk S) (n:Nat):EntryOk Try.prog (e0 87 65 (s_source_raw S n)):=e0_ok fun _ _ hr=>gen_e prog_ok Try.func87 rfl hS (s_source_k S) s_source_m rfl rfl hr
inductive s_compared_V where
  | e (s0:B82)
  | l0 (y0:Int) (y1:B82) (y2:D)
def s_compared_at:s_compared_V → Pth × List AV × Heap
  | .e s0=>([],startT Try.f73 [.ptr (some (0,0))],[b82 s0 0])
  | .l0 y0 y1 y2=>([0,1,0,1,1],mkT 52 [(0,.ptr (some (0,0))),(2,.ptr (some (1,0))),(3,.ptr (some (2,0))),(10,.dat (.agg [.str [61],.str [60,62],.str [60],.str [60,61],.str [62],.str [62,61]])),(11,.dat (.int .i64 y0))],[some (o82 y1 0),some (.cells 38 [.dat (.int .i64 0),.dat (.int .i64 0),.dat (.str []),.dat (.str []),.dat .nils,.dat .nils] 0),some (sbx 38 y2 6)])
def s_compared_st (S:Fns) (r:D × B82 → Prop) (l:s_compared_V → Prop):s_compared_V → Prop
  | .e s0=>bn (S.s_sum s0) fun x18=>an (okG 38 x18.1) (fl x18.1 [4,5] (l (.l0 0 x18.2 x18.1)))
  | .l0 y0 y1 y2=>cnd (decide (y0 < 6)) (an (decide (0 ≤ y0) && decide (y0 < Int.ofNat 6)) (bn ([.str [61],.str [60,62],.str [60],.str [60,61],.str [62],.str [62,61]][y0.toNat * 1]?) fun x19=>bn (asS x19) fun x20=>bn (S.s_mark y1 x20) fun x21=>cnd x21.1 (bn (S.s_sum x21.2) fun x22=>an (okG 38 x22.1) (an (okG 38 (G 38 y2)) (an (okG 38 (G 38 x22.1)) (bn (S.s_bin x20 (G 38 y2) (G 38 x22.1)) fun x23=>an (okG 38 x23) (fl x23 [4,5] (r ((G 38 x23),x22.2))))))) (l (.l0 (IntKind.i64.wrap (y0 + 1)) x21.2 y2)))) (bn (S.s_word y1 [105,115]) fun x24=>cnd x24.1 (bn (S.s_word x24.2 [110,111,116]) fun x25=>cnd x25.1 (bn (S.s_must x25.2 [110,117,108,108]) fun x26=>r ((.agg [.int .i64 9,.int .i64 1,.str [],.str [],D.slice [G 38 y2],.nils]),x26)) (bn (S.s_must x25.2 [110,117,108,108]) fun x27=>r ((.agg [.int .i64 9,.int .i64 0,.str [],.str [],D.slice [G 38 y2],.nils]),x27))) (bn (S.s_word x24.2 [110,111,116]) fun x28=>cnd x28.1 (bn (S.s_must x28.2 [105,110]) fun x29=>bn (S.s_bracketed x29) fun x30=>an (okG 54 x30.1) (r ((.agg [.int .i64 13,.int .i64 1,.str [],.str [],D.slice [G 38 y2],D.slice [G 54 x30.1]]),x30.2))) (bn (S.s_word x28.2 [105,110]) fun x31=>cnd x31.1 (bn (S.s_bracketed x31.2) fun x32=>an (okG 54 x32.1) (r ((.agg [.int .i64 13,.int .i64 0,.str [],.str [],D.slice [G 38 y2],D.slice [G 54 x32.1]]),x32.2))) (fl y2 [4,5] (r ((G 38 y2),x31.2))))))
theorem s_compared_k (S:Fns):KOk Try.prog [] 73 Try.f73 (enAll S) [([0,1,0,1,1],[(1,1),(4,6),(12,40)],false)] 1 s_compared_at enc0 (s_compared_st S):=by intro K g v; cases v <;> kernel_rfl
theorem s_compared_m {S:Fns}:Mono (s_compared_st S):=fun _ _ _ hl v=>by cases v <;> (dsimp only [s_compared_st]; repeat' first | exact id | exact hl _ | apply imp_an | apply imp_cnd | (refine imp_bn fun _=>?_) | apply imp_fl | (refine imp_gcas ?_ ?_ fun _ _=>?_))
def s_compared_raw (S:Fns) (n:Nat) (s0:B82):Option (D × B82):=rawN enc0 (s_compared_st S) n (.e s0)
theorem s_compared_ok {S:Fns} (hS:FnsOk S) (n:Nat):EntryOk Try.prog (e0 73 38 (s_compared_raw S n)):=e0_ok fun _ _ hr=>gen_e prog_ok Try.func73 rfl hS (s_compared_k S) s_compared_m rfl rfl hr
inductive s_left_or_V where
  | e (s0:B82) (a3:D)
  | l0 (y0:D) (y1:B82) (y2:D) (y3:Nat)
  | l1 (y0:D) (y1:Int) (y2:Int) (y3:B82) (y4:D) (y5:Nat)
def s_left_or_at:s_left_or_V → Pth × List AV × Heap
  | .e s0 a3=>([],startT Try.f51 [.ptr (some (0,0)),.func (.func 52) [] [.ptr (some (1,0))],.func (.func 54) [.ptr (some (0,0))] [],.dat a3],[b82 s0 0,some (.cells 67 [.ptr (some (0,0))] 0)])
  | .l0 y0 y1 y2 y3=>([1,1,0,1],mkT 30 [(1,.func (.func 52) [] [.ptr (some (1,0))]),(2,.func (.func 54) [.ptr (some (0,0))] []),(3,.dat y0),(8,.ptr (some (2,0))),(9,.ptr (some (3,0)))],[some (o82 y1 0),some (.cells 67 [.ptr (some (0,0))] 0),some (.cells 38 [.dat (.int .i64 0),.dat (.int .i64 0),.dat (.str []),.dat (.str []),.dat .nils,.dat .nils] 0),some (sbx 38 y2 y3)])
  | .l1 y0 y1 y2 y3 y4 y5=>([0,1,0,1,1,0,1],mkT 30 [(1,.func (.func 52) [] [.ptr (some (1,0))]),(2,.func (.func 54) [.ptr (some (0,0))] []),(3,.dat y0),(8,.ptr (some (2,0))),(9,.ptr (some (3,0))),(14,.dat y0),(15,.dat (.int .i64 y1)),(16,.dat (.int .i64 y2))],[some (o82 y3 0),some (.cells 67 [.ptr (some (0,0))] 0),some (.cells 38 [.dat (.int .i64 0),.dat (.int .i64 0),.dat (.str []),.dat (.str []),.dat .nils,.dat .nils] 0),some (sbx 38 y4 y5)])
def s_left_or_st (S:Fns) (r:D × B82 → Prop) (l:s_left_or_V → Prop):s_left_or_V → Prop
  | .e s0 a3=>bn (S.s_expr1 s0) fun x15=>an (okG 38 x15.1) (fl x15.1 [4,5] (l (.l0 a3 x15.2 x15.1 6)))
  | .l0 y0 y1 y2 y3=>bn (asL y0) fun x16=>l (.l1 y0 (Int.ofNat x16.length) 0 y1 y2 y3)
  | .l1 y0 y1 y2 y3 y4 y5=>cnd (decide (y2 < y1)) (bn (asL y0) fun x17=>bn (atD x17 y2) fun x18=>an x18.flat (bn (asS x18) fun x19=>bn (S.s_word y3 x19) fun x20=>cnd x20.1 (bn (S.s_expr1 x20.2) fun x21=>an (okG 38 x21.1) (an (okG 38 (G 38 y4)) (an (okG 38 (G 38 x21.1)) (bn (S.s_bin x19 (G 38 y4) (G 38 x21.1)) fun x22=>an (okG 38 x22) (fl x22 [4,5] (l (.l0 y0 x21.2 x22 (y5 + 6)))))))) (l (.l1 y0 y1 (IntKind.i64.wrap (y2 + 1)) x20.2 y4 y5)))) (fl y4 [4,5] (r ((G 38 y4),y3)))
theorem s_left_or_k (S:Fns):KOk Try.prog [] 51 Try.f51 (enAll S) [([1,1,0,1],[(0,1),(4,4),(10,20)],false),([0,1,0,1,1,0,1],[(0,1),(4,4),(10,4),(17,13)],false)] 2 s_left_or_at enc11 (s_left_or_st S):=by intro K g v; cases v <;> kernel_rfl
theorem s_left_or_m {S:Fns}:Mono (s_left_or_st S):=fun _ _ _ hl v=>by cases v <;> (dsimp only [s_left_or_st]; repeat' first | exact id | exact hl _ | apply imp_an | apply imp_cnd | (refine imp_bn fun _=>?_) | apply imp_fl | (refine imp_gcas ?_ ?_ fun _ _=>?_))
def s_left_or_raw (S:Fns) (n:Nat) (s0:B82) (a3:D):Option (D × B82):=rawN enc11 (s_left_or_st S) n (.e s0 a3)
theorem s_left_or_ok {S:Fns} (hS:FnsOk S) (n:Nat):EntryOk Try.prog (e11 51 52 54 38 (s_left_or_raw S n)):=e11_ok fun _ _ _ hr=>gen_e prog_ok Try.func51 rfl hS (s_left_or_k S) s_left_or_m rfl rfl hr
inductive s_left_sum_V where
  | e (s0:B82) (a3:D)
  | l0 (y0:D) (y1:B82) (y2:D) (y3:Nat)
  | l1 (y0:D) (y1:Int) (y2:Int) (y3:B82) (y4:D) (y5:Nat)
def s_left_sum_at:s_left_sum_V → Pth × List AV × Heap
  | .e s0 a3=>([],startT Try.f51 [.ptr (some (0,0)),.func (.func 109) [.ptr (some (0,0))] [],.func (.func 82) [.ptr (some (0,0))] [],.dat a3],[b82 s0 0])
  | .l0 y0 y1 y2 y3=>([1,1,0,1],mkT 30 [(1,.func (.func 109) [.ptr (some (0,0))] []),(2,.func (.func 82) [.ptr (some (0,0))] []),(3,.dat y0),(8,.ptr (some (1,0))),(9,.ptr (some (2,0)))],[some (o82 y1 0),some (.cells 38 [.dat (.int .i64 0),.dat (.int .i64 0),.dat (.str []),.dat (.str []),.dat .nils,.dat .nils] 0),some (sbx 38 y2 y3)])
  | .l1 y0 y1 y2 y3 y4 y5=>([0,1,0,1,1,0,1],mkT 30 [(1,.func (.func 109) [.ptr (some (0,0))] []),(2,.func (.func 82) [.ptr (some (0,0))] []),(3,.dat y0),(8,.ptr (some (1,0))),(9,.ptr (some (2,0))),(14,.dat y0),(15,.dat (.int .i64 y1)),(16,.dat (.int .i64 y2))],[some (o82 y3 0),some (.cells 38 [.dat (.int .i64 0),.dat (.int .i64 0),.dat (.str []),.dat (.str []),.dat .nils,.dat .nils] 0),some (sbx 38 y4 y5)])
def s_left_sum_st (S:Fns) (r:D × B82 → Prop) (l:s_left_sum_V → Prop):s_left_sum_V → Prop
  | .e s0 a3=>bn (S.s_prod s0) fun x15=>an (okG 38 x15.1) (fl x15.1 [4,5] (l (.l0 a3 x15.2 x15.1 6)))
  | .l0 y0 y1 y2 y3=>bn (asL y0) fun x16=>l (.l1 y0 (Int.ofNat x16.length) 0 y1 y2 y3)
  | .l1 y0 y1 y2 y3 y4 y5=>cnd (decide (y2 < y1)) (bn (asL y0) fun x17=>bn (atD x17 y2) fun x18=>an x18.flat (bn (asS x18) fun x19=>bn (S.s_mark y3 x19) fun x20=>cnd x20.1 (bn (S.s_prod x20.2) fun x21=>an (okG 38 x21.1) (an (okG 38 (G 38 y4)) (an (okG 38 (G 38 x21.1)) (bn (S.s_bin x19 (G 38 y4) (G 38 x21.1)) fun x22=>an (okG 38 x22) (fl x22 [4,5] (l (.l0 y0 x21.2 x22 (y5 + 6)))))))) (l (.l1 y0 y1 (IntKind.i64.wrap (y2 + 1)) x20.2 y4 y5)))) (fl y4 [4,5] (r ((G 38 y4),y3)))
theorem s_left_sum_k (S:Fns):KOk Try.prog [] 51 Try.f51 (enAll S) [([1,1,0,1],[(0,1),(4,4),(10,20)],false),([0,1,0,1,1,0,1],[(0,1),(4,4),(10,4),(17,13)],false)] 1 s_left_sum_at enc12 (s_left_sum_st S):=by intro K g v; cases v <;> kernel_rfl
theorem s_left_sum_m {S:Fns}:Mono (s_left_sum_st S):=fun _ _ _ hl v=>by cases v <;> (dsimp only [s_left_sum_st]; repeat' first | exact id | exact hl _ | apply imp_an | apply imp_cnd | (refine imp_bn fun _=>?_) | apply imp_fl | (refine imp_gcas ?_ ?_ fun _ _=>?_))
def s_left_sum_raw (S:Fns) (n:Nat) (s0:B82) (a3:D):Option (D × B82):=rawN enc12 (s_left_sum_st S) n (.e s0 a3)
theorem s_left_sum_ok {S:Fns} (hS:FnsOk S) (n:Nat):EntryOk Try.prog (e12 51 109 82 38 (s_left_sum_raw S n)):=e12_ok fun _ _ _ hr=>gen_e prog_ok Try.func51 rfl hS (s_left_sum_k S) s_left_sum_m rfl rfl hr
inductive s_list_expr_V where
  | e (s0:B82)
  | l0 (y0:List D) (y1:B82)
  | l1 (y0:List D) (y1:B82) (y2:Nat)
def s_list_expr_at:s_list_expr_V → Pth × List AV × Heap
  | .e s0=>([],startT Try.f88 [.ptr (some (0,0)),.func (.func 27) [.ptr (some (0,0))] []],[b82 s0 0])
  | .l0 y0 y1=>([0,0,1,1],mkT 17 [(0,.ptr (some (0,0))),(1,.func (.func 27) [.ptr (some (0,0))] []),(5,.own .full y0)],[some (o82 y1 0)])
  | .l1 y0 y1 y2=>([0,0,1,1],mkT 17 [(0,.ptr (some (0,0))),(1,.func (.func 27) [.ptr (some (0,0))] []),(5,.own (.tip 1) y0)],[some (o82 y1 0),some (.tip 38 y2 6)])
def s_list_expr_st (S:Fns) (r:D × B82 → Prop) (l:s_list_expr_V → Prop):s_list_expr_V → Prop
  | .e s0=>bn (S.s_expr s0) fun x5=>an (okG 38 x5.1) (l (.l0 [G 38 x5.1] x5.2))
  | .l0 y0 y1=>bn (S.s_mark y1 [44]) fun x6=>cnd x6.1 (bn (S.s_expr x6.2) fun x7=>an (okG 38 x7.1) (fl x7.1 [4,5] (an (sized 6 y0) (an (roomOk (y0.length + 1) 96) (l (.l1 (y0 ++ [G 38 x7.1]) x7.2 (y0.length + 1))))))) (r ((.slice y0),x6.2))
  | .l1 y0 y1 y2=>bn (S.s_mark y1 [44]) fun x8=>cnd x8.1 (bn (S.s_expr x8.2) fun x9=>an (okG 38 x9.1) (fl x9.1 [4,5] (an (y2 == y0.length) (an (roomOk (y2 + 1) 96) (l (.l1 (y0 ++ [G 38 x9.1]) x9.2 (y2 + 1))))))) (r ((.slice y0),x8.2))
theorem s_list_expr_k (S:Fns):KOk Try.prog [] 88 Try.f88 (enAll S) [([0,0,1,1],[(2,3),(6,11)],false)] 1 s_list_expr_at enc15 (s_list_expr_st S):=by intro K g v; cases v <;> kernel_rfl
theorem s_list_expr_m {S:Fns}:Mono (s_list_expr_st S):=fun _ _ _ hl v=>by cases v <;> (dsimp only [s_list_expr_st]; repeat' first | exact id | exact hl _ | apply imp_an | apply imp_cnd | (refine imp_bn fun _=>?_) | apply imp_fl | (refine imp_gcas ?_ ?_ fun _ _=>?_))
def s_list_expr_raw (S:Fns) (n:Nat) (s0:B82):Option (D × B82):=rawN enc15 (s_list_expr_st S) n (.e s0)
theorem s_list_expr_ok {S:Fns} (hS:FnsOk S) (n:Nat):EntryOk Try.prog (e15 88 27 (s_list_expr_raw S n)):=e15_ok fun _ _ hr=>gen_e prog_ok Try.func88 rfl hS (s_list_expr_k S) s_list_expr_m rfl rfl hr
inductive s_list_name_V where
  | e (s0:B82)
  | l0 (y0:List D) (y1:B82)
  | l1 (y0:List D) (y1:B82) (y2:Nat)
def s_list_name_at:s_list_name_V → Pth × List AV × Heap
  | .e s0=>([],startT Try.f107 [.ptr (some (0,0)),.func (.func 93) [.ptr (some (0,0))] []],[b82 s0 0])
  | .l0 y0 y1=>([0,0,1,1],mkT 17 [(0,.ptr (some (0,0))),(1,.func (.func 93) [.ptr (some (0,0))] []),(5,.own .full y0)],[some (o82 y1 0)])
  | .l1 y0 y1 y2=>([0,0,1,1],mkT 17 [(0,.ptr (some (0,0))),(1,.func (.func 93) [.ptr (some (0,0))] []),(5,.own (.tip 1) y0)],[some (o82 y1 0),some (.tip 9 y2 1)])
def s_list_name_st (S:Fns) (r:D × B82 → Prop) (l:s_list_name_V → Prop):s_list_name_V → Prop
  | .e s0=>bn (S.s_name s0) fun x5=>l (.l0 [.str x5.1] x5.2)
  | .l0 y0 y1=>bn (S.s_mark y1 [44]) fun x6=>cnd x6.1 (bn (S.s_name x6.2) fun x7=>an (sized 1 y0) (an (roomOk (y0.length + 1) 16) (l (.l1 (y0 ++ [D.str x7.1]) x7.2 (y0.length + 1))))) (r ((.slice y0),x6.2))
  | .l1 y0 y1 y2=>bn (S.s_mark y1 [44]) fun x8=>cnd x8.1 (bn (S.s_name x8.2) fun x9=>an (y2 == y0.length) (an (roomOk (y2 + 1) 16) (l (.l1 (y0 ++ [D.str x9.1]) x9.2 (y2 + 1))))) (r ((.slice y0),x8.2))
theorem s_list_name_k (S:Fns):KOk Try.prog [] 107 Try.f107 (enAll S) [([0,0,1,1],[(2,3),(6,11)],false)] 1 s_list_name_at enc15 (s_list_name_st S):=by intro K g v; cases v <;> kernel_rfl
theorem s_list_name_m {S:Fns}:Mono (s_list_name_st S):=fun _ _ _ hl v=>by cases v <;> (dsimp only [s_list_name_st]; repeat' first | exact id | exact hl _ | apply imp_an | apply imp_cnd | (refine imp_bn fun _=>?_) | apply imp_fl | (refine imp_gcas ?_ ?_ fun _ _=>?_))
def s_list_name_raw (S:Fns) (n:Nat) (s0:B82):Option (D × B82):=rawN enc15 (s_list_name_st S) n (.e s0)
theorem s_list_name_ok {S:Fns} (hS:FnsOk S) (n:Nat):EntryOk Try.prog (e15 107 93 (s_list_name_raw S n)):=e15_ok fun _ _ hr=>gen_e prog_ok Try.func107 rfl hS (s_list_name_k S) s_list_name_m rfl rfl hr
inductive t_put_V where
  | en (s0:B47) (a1:D)
  | eo (s0:B47) (a1:D) (es0:List D) (w0:Nat)
def t_put_at:t_put_V → Pth × List AV × Heap
  | .en s0 a1=>([],startT Try.f22 [.ptr (some (0,0)),.dat (G 34 a1)],[some (.cells 47 [.dat (.str (s0).c0),.dat (.int .i64 (s0).c1),.dat .nils] s0.ver)])
  | .eo s0 a1 es0 w0=>([],startT Try.f22 [.ptr (some (0,0)),.dat (G 34 a1)],[some (.cells 47 [.dat (.str (s0).c0),.dat (.int .i64 (s0).c1),.own (.at 0 2 w0 34) es0] s0.ver)])
def t_put_st (S:Fns) (r:Int × B47 → Prop) (l:t_put_V → Prop):t_put_V → Prop
  | .en s0 a1=>r (0,(⟨s0.c0,s0.c1,(.o [G 34 a1] s0.ver),s0.ver + 1⟩:B47))
  | .eo s0 a1 es0 w0=>cnd (Int.ofNat es0.length == 6000) (r (8,(⟨s0.c0,(cI a1 3),(.o es0 w0),s0.ver + 1⟩:B47))) (an (w0.beq w0) (an (es0.length.beq es0.length) (cnd es0.isEmpty False (an (sized 4 es0) (an (roomOk (es0.length + 1) 40) (an ((es0.length + 1).beq (es0 ++ [G 34 a1]).length) (r (0,(⟨s0.c0,s0.c1,(.o (es0 ++ [G 34 a1]) s0.ver),s0.ver + 1⟩:B47)))))))))
theorem t_put_k (S:Fns):KOk Try.prog [true] 22 Try.f22 (enAll S) [] 1 t_put_at enc23 (t_put_st S):=by intro K g v; cases v <;> kernel_rfl
def t_put_raw (S:Fns) (n:Nat) (s0:B47) (a1:D):Option (Int × B47):=gcas s0.c2 (rawN enc23 (t_put_st S) n (.en s0 a1)) (none) fun es0 w0=>rawN enc23 (t_put_st S) n (.eo s0 a1 es0 w0)
theorem t_put_ok {S:Fns} (hS:FnsOk S) (n:Nat):EntryOk Try.prog (e23 22 34 (t_put_raw S n)):=e23_ok fun ⟨_,_,g0,_⟩ _ r hr=>by
  rcases g0 with _ | _ | ⟨_,_⟩
  · exact gen_e prog_ok Try.func22 rfl hS (t_put_k S) (fun _ _ _ _ v=>by cases v <;> exact id) rfl rfl hr
  · exact nomatch (show (none:Option (Int × B47)) = some r from hr)
  · exact gen_e prog_ok Try.func22 rfl hS (t_put_k S) (fun _ _ _ _ v=>by cases v <;> exact id) rfl rfl hr
inductive r_SameExprs_V where
  | e (a0:D) (a1:D)
  | l0 (y0:D) (y1:D) (y2:Int)
def r_SameExprs_at:r_SameExprs_V → Pth × List AV × Heap
  | .e a0 a1=>([],startT Try.f28 [.dat a0,.dat a1],[])
  | .l0 y0 y1 y2=>([0,1,0,1,1],mkT 27 [(0,.dat y0),(1,.dat y1),(5,.dat (.int .i64 y2))],[])
def r_SameExprs_st (S:Fns) (r:Bool → Prop) (l:r_SameExprs_V → Prop):r_SameExprs_V → Prop
  | .e a0 a1=>bn (asL a0) fun x14=>bn (asL a1) fun x15=>cnd (Int.ofNat x14.length != Int.ofNat x15.length) (r false) (l (.l0 a0 a1 0))
  | .l0 y0 y1 y2=>bn (asL y0) fun x16=>cnd (decide (y2 < Int.ofNat x16.length)) (bn (asL y0) fun x17=>bn (atD x17 y2) fun x18=>an (okG 38 x18) (bn (asL y1) fun x19=>bn (atD x19 y2) fun x20=>an (okG 38 x20) (an (okG 38 (G 38 x18)) (an (okG 38 (G 38 x20)) (bn (S.r_SameExpr (G 38 x18) (G 38 x20)) fun x21=>cnd (!x21) (r false) (l (.l0 y0 y1 (IntKind.i64.wrap (y2 + 1))))))))) (r true)
theorem r_SameExprs_k (S:Fns):KOk Try.prog [] 28 Try.f28 (enAll S) [([0,1,0,1,1],[(2,3),(6,21)],false)] 0 r_SameExprs_at enc19 (r_SameExprs_st S):=by intro K g v; cases v <;> kernel_rfl
theorem r_SameExprs_m {S:Fns}:Mono (r_SameExprs_st S):=fun _ _ _ hl v=>by cases v <;> (dsimp only [r_SameExprs_st]; repeat' first | exact id | exact hl _ | apply imp_an | apply imp_cnd | (refine imp_bn fun _=>?_) | apply imp_fl | (refine imp_gcas ?_ ?_ fun _ _=>?_))
def r_SameExprs_raw (S:Fns) (n:Nat) (a0:D) (a1:D):Option (Bool):=rawN enc19 (r_SameExprs_st S) n (.e a0 a1)
theorem r_SameExprs_ok {S:Fns} (hS:FnsOk S) (n:Nat):EntryOk Try.prog (e19 28 (r_SameExprs_raw S n)):=e19_ok fun _ _ _ hr=>gen_e prog_ok Try.func28 rfl hS (r_SameExprs_k S) r_SameExprs_m rfl rfl hr
inductive c_Round_V where
  | e (a0:List UInt8)
def c_Round_at:c_Round_V → Pth × List AV × Heap
  | .e a0=>([],startT Try.f6 [.dat (.str a0)],[])
def c_Round_st (S:Fns) (r:Bool → Prop) (l:c_Round_V → Prop):c_Round_V → Prop
  | .e a0=>cnd (decide (Int.ofNat a0.length > 9000)) (bn S.c_alive fun x8=>r x8) (bn (S.S_Expr a0) fun x9=>an (okG 38 x9.1) (fl x9.1 [4,5] (an (decide ((ByteArray.mk #[40]).data.toList.length + a0.length ≤ 9223372036854775807)) (an (decide (((ByteArray.mk #[40]).data.toList ++ a0).length + (ByteArray.mk #[10,41]).data.toList.length ≤ 9223372036854775807)) (bn (S.S_Expr ([40] ++ a0 ++ [10,41])) fun x10=>an (okG 38 x10.1) (fl x10.1 [4,5] (cnd (x9.2.2 != 0) (bn S.c_alive fun x11=>r x11) (cnd (x10.2.2 == 9) (bn S.c_alive fun x12=>r x12) (cnd (x10.2.2 == 8) (bn S.c_alive fun x13=>r x13) (cnd (x10.2.2 == 0) (an (okG 38 (G 38 x9.1)) (an (okG 38 (G 38 x10.1)) (bn (S.r_SameExpr (G 38 x9.1) (G 38 x10.1)) fun x14=>cnd x14 (bn S.c_alive fun x15=>r x15) (r false)))) (r false)))))))))))
theorem c_Round_k (S:Fns):KOk Try.prog [] 6 Try.f6 (enAll S) [] 0 c_Round_at enc10 (c_Round_st S):=by intro K g v; cases v <;> kernel_rfl
def c_Round_raw (S:Fns) (n:Nat) (a0:List UInt8):Option (Bool):=rawN enc10 (c_Round_st S) n (.e a0)
theorem c_Round_ok {S:Fns} (hS:FnsOk S) (n:Nat):EntryOk Try.prog (e10 6 (c_Round_raw S n)):=e10_ok fun _ _ hr=>gen_e prog_ok Try.func6 rfl hS (c_Round_k S) (fun _ _ _ _ v=>by cases v <;> exact id) rfl rfl hr
inductive s_cases_V where
  | e (s0:B82)
def s_cases_at:s_cases_V → Pth × List AV × Heap
  | .e s0=>([],startT Try.f118 [.ptr (some (0,0))],[b82 s0 0])
def s_cases_st (S:Fns) (r:D × B82 → Prop) (l:s_cases_V → Prop):s_cases_V → Prop
  | .e s0=>bn (S.s_must s0 [119,104,101,110]) fun x7=>bn (S.s_expr x7) fun x8=>an (okG 38 x8.1) (fl x8.1 [4,5] (bn (S.s_must x8.2 [116,104,101,110]) fun x9=>bn (S.s_expr x9) fun x10=>an (okG 38 x10.1) (fl x10.1 [4,5] (bn (S.s_must x10.2 [101,108,115,101]) fun x11=>bn (S.s_expr x11) fun x12=>an (okG 38 x12.1) (fl x12.1 [4,5] (bn (S.s_must x12.2 [101,110,100]) fun x13=>r ((.agg [.int .i64 11,.int .i64 0,.str [],.str [],D.slice [G 38 x8.1,G 38 x10.1,G 38 x12.1],.nils]),x13)))))))
theorem s_cases_k (S:Fns):KOk Try.prog [] 118 Try.f118 (enAll S) [] 1 s_cases_at enc0 (s_cases_st S):=by intro K g v; cases v <;> kernel_rfl
def s_cases_raw (S:Fns) (n:Nat) (s0:B82):Option (D × B82):=rawN enc0 (s_cases_st S) n (.e s0)
theorem s_cases_ok {S:Fns} (hS:FnsOk S) (n:Nat):EntryOk Try.prog (e0 118 38 (s_cases_raw S n)):=e0_ok fun _ _ hr=>gen_e prog_ok Try.func118 rfl hS (s_cases_k S) (fun _ _ _ _ v=>by cases v <;> exact id) rfl rfl hr
inductive s_inner_neg_V where
  | e (s0:B82) (a1:Int)
def s_inner_neg_at:s_inner_neg_V → Pth × List AV × Heap
  | .e s0 a1=>([],startT Try.f72 [.ptr (some (0,0)),.dat (.int .i64 a1),.func (.func 115) [.ptr (some (0,0))] []],[b82 s0 0])
def s_inner_neg_st (S:Fns) (r:D × B82 → Prop) (l:s_inner_neg_V → Prop):s_inner_neg_V → Prop
  | .e s0 a1=>bn (S.s_enter s0) fun x3=>cnd (!x3.1) (r ((.agg [.int .i64 0,.int .i64 0,.str [],.str [],.nils,.nils]),x3.2)) (bn (S.s_unary x3.2) fun x4=>an (okG 38 x4.1) (bn (S.s_leave x4.2) fun x5=>r ((.agg [.int .i64 a1,.int .i64 0,.str [],.str [],D.slice [G 38 x4.1],.nils]),x5)))
theorem s_inner_neg_k (S:Fns):KOk Try.prog [] 72 Try.f72 (enAll S) [] 1 s_inner_neg_at enc13 (s_inner_neg_st S):=by intro K g v; cases v <;> kernel_rfl
def s_inner_neg_raw (S:Fns) (n:Nat) (s0:B82) (a1:Int):Option (D × B82):=rawN enc13 (s_inner_neg_st S) n (.e s0 a1)
theorem s_inner_neg_ok {S:Fns} (hS:FnsOk S) (n:Nat):EntryOk Try.prog (e13 72 115 38 (s_inner_neg_raw S n)):=e13_ok fun _ _ _ hr=>gen_e prog_ok Try.func72 rfl hS (s_inner_neg_k S) (fun _ _ _ _ v=>by cases v <;> exact id) rfl rfl hr
inductive g_sHasPrefix_V where
  | e (a0:List UInt8) (a1:List UInt8)
def g_sHasPrefix_at:g_sHasPrefix_V → Pth × List AV × Heap
  | .e a0 a1=>([],startT Try.f59 [.dat (.str a0),.dat (.str a1)],[])
def g_sHasPrefix_st (S:Fns) (r:Bool → Prop) (l:g_sHasPrefix_V → Prop):g_sHasPrefix_V → Prop
  | .e a0 a1=>cnd (decide (Int.ofNat a0.length ≥ Int.ofNat a1.length)) (an (decide (0 ≤ Int.ofNat a1.length) && decide (Int.ofNat a1.length ≤ Int.ofNat a0.length)) (r (List.take ((Int.ofNat a1.length).toNat - 0) (List.drop 0 a0) == a1))) (r false)
theorem g_sHasPrefix_k (S:Fns):KOk Try.prog [] 59 Try.f59 (enAll S) [] 0 g_sHasPrefix_at enc27 (g_sHasPrefix_st S):=by intro K g v; cases v <;> kernel_rfl
def g_sHasPrefix_raw (S:Fns) (n:Nat) (a0:List UInt8) (a1:List UInt8):Option (Bool):=rawN enc27 (g_sHasPrefix_st S) n (.e a0 a1)
theorem g_sHasPrefix_ok {S:Fns} (hS:FnsOk S) (n:Nat):EntryOk Try.prog (e27 59 (g_sHasPrefix_raw S n)):=e27_ok fun _ _ _ hr=>gen_e prog_ok Try.func59 rfl hS (g_sHasPrefix_k S) (fun _ _ _ _ v=>by cases v <;> exact id) rfl rfl hr
inductive s_number_V where
  | e (s0:B82)
def s_number_at:s_number_V → Pth × List AV × Heap
  | .e s0=>([],startT Try.f91 [.ptr (some (0,0))],[b82 s0 0])
def s_number_st (S:Fns) (r:Int × B82 → Prop) (l:s_number_V → Prop):s_number_V → Prop
  | .e s0=>cnd (s0.c4 != 0) (bn (S.s_fail s0 10) fun x5=>r (0,x5)) (bn (S.s_now s0) fun x6=>an (okG 34 x6.1) (cnd (cI x6.1 0 != 2) (bn (S.s_fail x6.2 10) fun x7=>r (0,x7)) (bn (S.s_now x6.2) fun x8=>an (okG 34 x8.1) (bn (S.s_next x8.2) fun x9=>r ((cI x8.1 2),x9)))))
theorem s_number_k (S:Fns):KOk Try.prog [] 91 Try.f91 (enAll S) [] 1 s_number_at enc8 (s_number_st S):=by intro K g v; cases v <;> kernel_rfl
def s_number_raw (S:Fns) (n:Nat) (s0:B82):Option (Int × B82):=rawN enc8 (s_number_st S) n (.e s0)
theorem s_number_ok {S:Fns} (hS:FnsOk S) (n:Nat):EntryOk Try.prog (e8 91 (s_number_raw S n)):=e8_ok fun _ _ hr=>gen_e prog_ok Try.func91 rfl hS (s_number_k S) (fun _ _ _ _ v=>by cases v <;> exact id) rfl rfl hr
inductive s_bracketed_V where
  | e (s0:B82)
def s_bracketed_at:s_bracketed_V → Pth × List AV × Heap
  | .e s0=>([],startT Try.f99 [.ptr (some (0,0))],[b82 s0 0])
def s_bracketed_st (S:Fns) (r:D × B82 → Prop) (l:s_bracketed_V → Prop):s_bracketed_V → Prop
  | .e s0=>bn (S.s_need s0 [40]) fun x3=>bn (S.s_query x3) fun x4=>an (okG 54 x4.1) (fl x4.1 [2,3,4,5,6,7,9] (bn (S.s_need x4.2 [41]) fun x5=>fl x4.1 [2,3,4,5,6,7,9] (r ((G 54 x4.1),x5))))
theorem s_bracketed_k (S:Fns):KOk Try.prog [] 99 Try.f99 (enAll S) [] 1 s_bracketed_at enc0 (s_bracketed_st S):=by intro K g v; cases v <;> kernel_rfl
def s_bracketed_raw (S:Fns) (n:Nat) (s0:B82):Option (D × B82):=rawN enc0 (s_bracketed_st S) n (.e s0)
theorem s_bracketed_ok {S:Fns} (hS:FnsOk S) (n:Nat):EntryOk Try.prog (e0 99 54 (s_bracketed_raw S n)):=e0_ok fun _ _ hr=>gen_e prog_ok Try.func99 rfl hS (s_bracketed_k S) (fun _ _ _ _ v=>by cases v <;> exact id) rfl rfl hr
inductive s_unary_V where
  | e (s0:B82)
def s_unary_at:s_unary_V → Pth × List AV × Heap
  | .e s0=>([],startT Try.f115 [.ptr (some (0,0))],[b82 s0 0])
def s_unary_st (S:Fns) (r:D × B82 → Prop) (l:s_unary_V → Prop):s_unary_V → Prop
  | .e s0=>bn (S.s_mark s0 [45]) fun x3=>cnd x3.1 (bn (S.s_inner_neg x3.2 7) fun x4=>an (okG 38 x4.1) (fl x4.1 [4,5] (r ((G 38 x4.1),x4.2)))) (bn (S.s_prim x3.2) fun x5=>an (okG 38 x5.1) (fl x5.1 [4,5] (r ((G 38 x5.1),x5.2))))
theorem s_unary_k (S:Fns):KOk Try.prog [] 115 Try.f115 (enAll S) [] 1 s_unary_at enc0 (s_unary_st S):=by intro K g v; cases v <;> kernel_rfl
def s_unary_raw (S:Fns) (n:Nat) (s0:B82):Option (D × B82):=rawN enc0 (s_unary_st S) n (.e s0)
theorem s_unary_ok {S:Fns} (hS:FnsOk S) (n:Nat):EntryOk Try.prog (e0 115 38 (s_unary_raw S n)):=e0_ok fun _ _ hr=>gen_e prog_ok Try.func115 rfl hS (s_unary_k S) (fun _ _ _ _ v=>by cases v <;> exact id) rfl rfl hr
inductive s_not_V where
  | e (s0:B82)
def s_not_at:s_not_V → Pth × List AV × Heap
  | .e s0=>([],startT Try.f53 [.ptr (some (0,0))],[b82 s0 0])
def s_not_st (S:Fns) (r:D × B82 → Prop) (l:s_not_V → Prop):s_not_V → Prop
  | .e s0=>bn (S.s_word s0 [110,111,116]) fun x3=>cnd x3.1 (bn (S.s_inner_not x3.2 8) fun x4=>an (okG 38 x4.1) (fl x4.1 [4,5] (r ((G 38 x4.1),x4.2)))) (bn (S.s_compared x3.2) fun x5=>an (okG 38 x5.1) (fl x5.1 [4,5] (r ((G 38 x5.1),x5.2))))
theorem s_not_k (S:Fns):KOk Try.prog [] 53 Try.f53 (enAll S) [] 1 s_not_at enc0 (s_not_st S):=by intro K g v; cases v <;> kernel_rfl
def s_not_raw (S:Fns) (n:Nat) (s0:B82):Option (D × B82):=rawN enc0 (s_not_st S) n (.e s0)
theorem s_not_ok {S:Fns} (hS:FnsOk S) (n:Nat):EntryOk Try.prog (e0 53 38 (s_not_raw S n)):=e0_ok fun _ _ hr=>gen_e prog_ok Try.func53 rfl hS (s_not_k S) (fun _ _ _ _ v=>by cases v <;> exact id) rfl rfl hr
inductive s_expr1_V where
  | e (s0:B82)
def s_expr1_at:s_expr1_V → Pth × List AV × Heap
  | .e s0=>([],startT Try.f52 [.ptr (some (1,0))],[b82 s0 0,some (.cells 67 [.ptr (some (0,0))] 0)])
def s_expr1_st (S:Fns) (r:D × B82 → Prop) (l:s_expr1_V → Prop):s_expr1_V → Prop
  | .e s0=>bn (S.s_left_and s0 (.slice [.str [97,110,100]])) fun x1=>an (okG 38 x1.1) (fl x1.1 [4,5] (r ((G 38 x1.1),x1.2)))
theorem s_expr1_k (S:Fns):KOk Try.prog [] 52 Try.f52 (enAll S) [] 2 s_expr1_at enc14 (s_expr1_st S):=by intro K g v; cases v <;> kernel_rfl
def s_expr1_raw (S:Fns) (n:Nat) (s0:B82):Option (D × B82):=rawN enc14 (s_expr1_st S) n (.e s0)
theorem s_expr1_ok {S:Fns} (hS:FnsOk S) (n:Nat):EntryOk Try.prog (e14 52 38 (s_expr1_raw S n)):=e14_ok fun _ _ hr=>gen_e prog_ok Try.func52 rfl hS (s_expr1_k S) (fun _ _ _ _ v=>by cases v <;> exact id) rfl rfl hr
inductive g_sIndexByte_V where
  | e (a0:List UInt8) (a1:Int)
def g_sIndexByte_at:g_sIndexByte_V → Pth × List AV × Heap
  | .e a0 a1=>([],startT Try.f58 [.dat (.str a0),.dat (.int .u8 a1)],[])
def g_sIndexByte_st (S:Fns) (r:Int → Prop) (l:g_sIndexByte_V → Prop):g_sIndexByte_V → Prop
  | .e a0 a1=>bn (S.g_IBS a0 a1) fun x1=>r x1
theorem g_sIndexByte_k (S:Fns):KOk Try.prog [] 58 Try.f58 (enAll S) [] 0 g_sIndexByte_at enc28 (g_sIndexByte_st S):=by intro K g v; cases v <;> kernel_rfl
def g_sIndexByte_raw (S:Fns) (n:Nat) (a0:List UInt8) (a1:Int):Option (Int):=rawN enc28 (g_sIndexByte_st S) n (.e a0 a1)
theorem g_sIndexByte_ok {S:Fns} (hS:FnsOk S) (n:Nat):EntryOk Try.prog (e28 58 (g_sIndexByte_raw S n)):=e28_ok fun _ _ _ hr=>gen_e prog_ok Try.func58 rfl hS (g_sIndexByte_k S) (fun _ _ _ _ v=>by cases v <;> exact id) rfl rfl hr
inductive s_bin_V where
  | e (a0:List UInt8) (a1:D) (a2:D)
def s_bin_at:s_bin_V → Pth × List AV × Heap
  | .e a0 a1 a2=>([],startT Try.f71 [.dat (.str a0),.dat (G 38 a1),.dat (G 38 a2)],[])
def s_bin_st (S:Fns) (r:D → Prop) (l:s_bin_V → Prop):s_bin_V → Prop
  | .e a0 a1 a2=>r (.agg [.int .i64 10,.int .i64 0,.str a0,.str [],D.slice [G 38 a1,G 38 a2],.nils])
theorem s_bin_k (S:Fns):KOk Try.prog [] 71 Try.f71 (enAll S) [] 0 s_bin_at enc9 (s_bin_st S):=by intro K g v; cases v <;> kernel_rfl
def s_bin_raw (S:Fns) (n:Nat) (a0:List UInt8) (a1:D) (a2:D):Option (D):=rawN enc9 (s_bin_st S) n (.e a0 a1 a2)
theorem s_bin_ok {S:Fns} (hS:FnsOk S) (n:Nat):EntryOk Try.prog (e9 71 38 38 38 (s_bin_raw S n)):=e9_ok fun _ _ _ _ hr=>gen_e prog_ok Try.func71 rfl hS (s_bin_k S) (fun _ _ _ _ v=>by cases v <;> exact id) rfl rfl hr
inductive s_sum_V where
  | e (s0:B82)
def s_sum_at:s_sum_V → Pth × List AV × Heap
  | .e s0=>([],startT Try.f98 [.ptr (some (0,0))],[b82 s0 0])
def s_sum_st (S:Fns) (r:D × B82 → Prop) (l:s_sum_V → Prop):s_sum_V → Prop
  | .e s0=>bn (S.s_left_sum s0 (.slice [.str [43],.str [45],.str [124,124]])) fun x1=>an (okG 38 x1.1) (fl x1.1 [4,5] (r ((G 38 x1.1),x1.2)))
theorem s_sum_k (S:Fns):KOk Try.prog [] 98 Try.f98 (enAll S) [] 1 s_sum_at enc0 (s_sum_st S):=by intro K g v; cases v <;> kernel_rfl
def s_sum_raw (S:Fns) (n:Nat) (s0:B82):Option (D × B82):=rawN enc0 (s_sum_st S) n (.e s0)
theorem s_sum_ok {S:Fns} (hS:FnsOk S) (n:Nat):EntryOk Try.prog (e0 98 38 (s_sum_raw S n)):=e0_ok fun _ _ hr=>gen_e prog_ok Try.func98 rfl hS (s_sum_k S) (fun _ _ _ _ v=>by cases v <;> exact id) rfl rfl hr
inductive S_Expr_V where
  | e (a0:List UInt8)
def S_Expr_at:S_Expr_V → Pth × List AV × Heap
  | .e a0=>([],startT Try.f15 [.dat (.str a0)],[])
def S_Expr_st (S:Fns) (r:D × Int × Int → Prop) (l:S_Expr_V → Prop):S_Expr_V → Prop
  | .e a0=>bn (S.s_readE a0 0) fun x1=>an (okG 38 x1.1) (fl x1.1 [4,5] (r ((G 38 x1.1),x1.2.1,x1.2.2)))
theorem S_Expr_k (S:Fns):KOk Try.prog [] 15 Try.f15 (enAll S) [] 0 S_Expr_at enc17 (S_Expr_st S):=by intro K g v; cases v <;> kernel_rfl
def S_Expr_raw (S:Fns) (n:Nat) (a0:List UInt8):Option (D × Int × Int):=rawN enc17 (S_Expr_st S) n (.e a0)
theorem S_Expr_ok {S:Fns} (hS:FnsOk S) (n:Nat):EntryOk Try.prog (e17 15 38 (S_Expr_raw S n)):=e17_ok fun _ _ hr=>gen_e prog_ok Try.func15 rfl hS (S_Expr_k S) (fun _ _ _ _ v=>by cases v <;> exact id) rfl rfl hr
end
end Go.Proofs.Ytfdcjngclelnhaa
