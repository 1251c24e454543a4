/- Plain: the prime 2^255 - 19. -/
namespace Go.Proofs.Ytmbbdblmengdhaa
def pP : Nat := 57896044618658097711785492504343953926634992332820282019728792003956564819949
end Go.Proofs.Ytmbbdblmengdhaa
